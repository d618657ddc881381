/- several texts of this proof in one; no conditions -/
import Derived.Test.YtalbdmcklgglbaaDoorAT
import Derived.Test.YtalbdmcklgglbaaDoorQ241
set_option linter.unusedSimpArgs false
namespace Go.Proofs.YtalbdmcklgglbaaDoor
open Go Go.Abs Go.Proofs
theorem zc9 {bs:List Abs.Box}{d m:Int}:zbd bs d m→∀x∈bs,zfU x d m:=by
 induction bs with
 |nil=>intro _ x hx;simp at hx
 |cons b bs ih=>
  intro h x hx
  rw[zbd]at h
  rcases List.mem_cons.1 hx with rfl|hx
  ·exact h.1
  ·exact ih h.2 x hx
theorem zfy {r:List Str}{cs:List Abs.zal}{d:Int}:zaU r cs d→∀x∈cs,zgQ r x d:=by
 induction cs with
 |nil=>intro _ x hx;simp at hx
 |cons b bs ih=>
  intro h x hx
  rw[zaU]at h
  rcases List.mem_cons.1 hx with rfl|hx
  ·exact h.1
  ·exact ih h.2 x hx
theorem zwG {b:Abs.Box}{path:List Int}{A:Nat}{l:List Abs.Box}{e:Abs.Box}{c:Abs.zal}(h:zAX b path A l e c)(hk6:c.kind=6):∃(hb0:0<c.boxes.length),zDq b path A l (zcU l) c.boxes[0] (zbX l):=by
 obtain⟨hb0,hw,hpw⟩:=h.w.six hk6
 have hg:c.boxes.getD 0 noB=c.boxes[0]:=by rw[List.getD_eq_getElem?_getD,List.getElem?_eq_getElem hb0];rfl
 rw[hg]at hw hpw
 obtain⟨d,r,hl,hr⟩:=h.lc
 have hlb:=zc9 (zbI.1 hl).2 _ (List.getElem_mem hb0)
 obtain⟨_,q2,q3,q4⟩:=zcr.1 hlb
 have ht:=h.tot
 have hs:=h.sz
 refine⟨hb0,rfl,rfl,h.w.vr,rfl,hw.pr,hw.pc,hpw,h.nm,fun hp x hx=>?_,q3,fun f hf h3=>?_,fun cs rs h1 h2=>?_⟩
 ·have hx1:x.kind=1:=by
   unfold zhL at hp
   exact of_decide_eq_true (List.all_eq_true.1 hp x hx)
  exact zea (zbI.1 (zfy q4 x hx)).1 (.inl hx1)
 ·have:=h.n1
  exact⟨zgP hf h3,hf,h.ok,by omega,fun x hx=>by have:=h.n2 x hx;omega⟩
 ·exact⟨by omega,by rw[Int.toNat_natCast];exact h.hp,by omega,by omega,h1,h2⟩
structure zDa (b:Abs.Box)(path:List Int)(a:Int):Prop where
 h0:0≤a
 hb:(zcy b).code=0
 hp:Pth b path a.toNat
def V16:Tbl:=V15.add 26 (sp3 (fun b path (a:Int)=>ze6 b path a.toNat) zDa)
theorem zF2:zan Tryd.prog G0 V16:=by
 refine zr8 zC5 ziE fun b path a hp _ _ _=>?_
 obtain⟨p0,p1,p2⟩:=hp
 obtain⟨A,hA⟩:∃A:Nat,a=(A:Int):=⟨a.toNat,by omega⟩
 subst hA
 rw[Int.toNat_natCast]at p2 ⊢
 obtain⟨l,e,c,h⟩:=zrx p1 p2
 by_cases h5:c.kind=5
 ·exact zGT h h5
 have h6:c.kind=6:=by
  obtain⟨d,r,hl,_⟩:=h.lc
  have h7:=(zbI.1 hl).1
  have h4:=h.k4
  have hk:¬zax c.kind<0:=fun h8=>by
   unfold zbb at h7
   rw[if_pos h8]at h7
   cases h7
  unfold zax at hk
  by_cases h9:c.kind=2∨c.kind=6
  ·omega
  ·rw[if_neg (by omega),if_neg h9,if_neg (by omega)]at hk
   exact absurd (by decide) hk
 obtain⟨hb0,h8⟩:=zwG h h6
 exact zGU h h6 hb0 rfl h8
end Go.Proofs.YtalbdmcklgglbaaDoor
namespace Go.Proofs.YtalbdmcklgglbaaDoor
open Go Go.Abs Go.Proofs
theorem zwU {f:Abs.zac}(h:zdH f)(h3:f.words.length≤3):(txt f).length≤170:=by
 rcases h with⟨nm,ws,rfl,h1,h2⟩|⟨a,b,rfl,h1,h2⟩
 ·rw[zug rfl]
  have l1:=zlu h1
  have l2:=zjy (sep:=[44]) (by decide) h2
  have h3':ws.length≤3:=h3
  simp only[zac.name,zac.words,List.length_append,List.length_cons,List.length_nil]at*
  omega
 ·rw[zuh rfl]
  have l2:=zjy (sep:=[32,61,32]) (by decide) (ws:=[a,b]) (fun w hw=>by rcases List.mem_cons.1 hw with rfl|hw;exact h1;rw[List.mem_singleton.1 hw];exact h2)
  simp only[zac.name,zac.words,List.length_append,List.length_cons,List.length_nil]at*
  omega
theorem zrW:∀{r:List Str},(∀x∈r,zai x=true)→(rfT r).length≤31*r.length
 |[],_=>by simp[rfT]
 |x::r,h=>by
  have h1:=zrW (r:=r) fun y hy=>h y (by simp[hy])
  have h2:=zlu (h x (by simp))
  unfold rfT at*
  rw[List.flatMap_cons,List.length_append,List.length_append,List.length_cons,List.length_cons,List.length_nil]
  omega
theorem zu3:∀r:List Str,r.length≤(rfT r).length
 |[]=>by simp
 |x::r=>by
  have h1:=zu3 r
  unfold rfT at*
  rw[List.flatMap_cons,List.length_append,List.length_append,List.length_cons,List.length_singleton]
  omega
theorem zqj:∀r:List Abs.zal,r.length≤(zd7 r).length
 |[]=>by simp
 | .mk k n f bs::r=>by
  have h1:=zqj r
  rw[zd7,btC,zeR]
  simp only[List.length_append,List.length_cons,List.length_nil]
  omega
theorem zrV (a b:List Str):rfT (a++b)=rfT a++rfT b:=by unfold rfT;rw[List.flatMap_append]
theorem znH (k:Int):(ztc k).length=1:=by unfold ztc;(repeat' split)<;>rfl
theorem zq1 {c:Abs.zal}{r:List Str}(h:zbb c r=0)(hk:¬4<c.kind):(zeR c.kind c.name c.form).length≤200:=by
 obtain⟨h1,h2,h3,h4,h5,h6⟩:=zgM h hk
 unfold zeR
 rw[h3]
 have hd:=znH c.kind
 split
 ·rename_i hb
  have hk1:c.kind=1:=by
   unfold zax at hb
   split at hb
   ·omega
   ·split at hb
    ·cases hb
    ·rw[if_pos (by omega)]at hb;cases hb
  have:=zea h (.inl hk1)
  have:=zwU this.1 this.2
  simp only[List.length_append,List.length_cons,List.length_nil]
  omega
 ·simp only[List.length_append,List.length_cons,List.length_nil]
  omega
mutual
theorem zqi:∀(b:Abs.Box) (d m:Int),zfU b d m→zeu b=false→(btB b).length≤300*ziM b+31*(zdA b).length
 | .mk r cs,d,m,h,hu=>by
  rw[zfU]at h;rw[zeu]at hu;rw[btB,ziM,zdA]
  have h1:=zrW h.2.2.1
  have h2:=znr r cs d h.2.2.2 hu
  simp only[List.length_append,List.length_cons,List.length_nil]
  omega
theorem zvu:∀(r:List Str) (c:Abs.zal) (d:Int),zgQ r c d→zih c=false→(btC c).length≤300*zke c+31*(zh7 c).length
 |r,.mk k n f bs,d,h,hu=>by
  rw[zgQ]at h;rw[zih,Bool.or_eq_false_iff,decide_eq_false_iff_not]at hu;rw[btC,zke,zh7]
  have h1:=zq1 h.1 hu.1
  have h2:=zno bs _ _ h.2 hu.2
  have h1':(zeR k n f).length≤200:=h1
  rw[List.length_append]
  omega
theorem zno:∀(bs:List Abs.Box) (d m:Int),zbd bs d m→zeT bs=false→(zfT bs).length≤300*zcg bs+31*(zbU bs).length
 |[],_,_,_,_=>by rw[zfT];simp
 |b::bs,d,m,h,hu=>by
  rw[zbd]at h;rw[zeT,Bool.or_eq_false_iff]at hu;rw[zfT,zcg,zbU]
  have h1:=zqi b d m h.1 hu.1
  have h2:=zno bs d m h.2 hu.2
  simp only[List.length_append]
  omega
theorem znr:∀(r:List Str) (cs:List Abs.zal) (d:Int),zaU r cs d→zfN cs=false→(zd7 cs).length≤300*za4 cs+31*(zba cs).length
 |_,[],_,_,_=>by rw[zd7];simp
 |r,c::cs,d,h,hu=>by
  rw[zaU]at h;rw[zfN,Bool.or_eq_false_iff]at hu;rw[zd7,za4,zba]
  have h1:=zvu r c d h.1 hu.1
  have h2:=znr r cs d h.2 hu.2
  simp only[List.length_append]
  omega
end
theorem zl4 {cs:List Abs.zal}:zfN cs=false→∀x∈cs,zih x=false:=by
 induction cs with
 |nil=>intro _ x hx;simp at hx
 |cons b bs ih=>
  intro h x hx
  rw[zfN,Bool.or_eq_false_iff]at h
  rcases List.mem_cons.1 hx with rfl|hx
  ·exact h.1
  ·exact ih h.2 x hx
theorem zsv {cs:List Abs.Box}:zeT cs=false→∀x∈cs,zeu x=false:=by
 induction cs with
 |nil=>intro _ x hx;simp at hx
 |cons b bs ih=>
  intro h x hx
  rw[zeT,Bool.or_eq_false_iff]at h
  rcases List.mem_cons.1 hx with rfl|hx
  ·exact h.1
  ·exact ih h.2 x hx
theorem zna {c:Abs.zal}:zih c=(decide (4<c.kind)||zeT c.boxes):=by cases c;rw[zih];rfl
theorem zuk {b:Abs.Box}:zeu b=zfN b.conds:=by cases b;rw[zeu];rfl
theorem zux (c:Abs.zal):btC c=zeR c.kind c.name c.form++zfT c.boxes:=by cases c;rw[btC];rfl
theorem zuw (b:Abs.Box):btB b=[123]++rfT b.refs++zd7 b.conds++[125]:=by cases b;rw[btB];rfl
structure zxO (b:Abs.Box):Prop where
 loc:∃d m,zfU b d m
 uns:zeu b=false
 len:(btB b).length≤1000000000
theorem zwq {b:Abs.Box}(h:(zcy b).code=0)(hu:zeu b=false):zxO b:=by
 have hv:=VB.of h
 have h1:=zqi b 1 200 hv.loc hu
 have h2:=hv.nod
 have h3:=hv.len
 exact⟨⟨1,200,hv.loc⟩,hu,by omega⟩
def zj1:Tv:=(.q 0 (.q 1 (.q 2 (.q 3 (.q 4 (.q 5 (.q 6 (.q 7 (.q 8 (.q 9 .leaf))))))))))
def V17:Tbl:=V16.add 24 (sp1 btS zxO)
theorem zyk (k:Int):enc (ztd k)=FD.s (ztc k):=rfl
theorem zyl (f:Abs.zac):enc (txS f)=FD.s (txt f):=rfl
theorem zho (b:Abs.Box):enc (btS b)=FD.s (btB b):=rfl
theorem k53 (s):V16.add 24 s 53=some (sp1 ztd fun n=>1≤n∧n≤6):=rfl
theorem k54 (s):V16.add 24 s 54=some (sp1 zax fun _=>True):=rfl
theorem k55 (s):V16.add 24 s 55=some (sp1 txS lfP):=rfl
theorem k24 (s):V16.add 24 s 24=some s:=rfl
set_option maxHeartbeats 8000000 in
set_option maxRecDepth 100000 in
set_option maxHeartbeats 1000000 in
theorem zxk:zan Tryd.prog G0 V17:=by
 refine zjU Box.size zET zF2 fun n hT b hn hp _=>?_
 obtain⟨p1,p2,p3⟩:=hp
 obtain⟨dl,ml,hloc⟩:=p1
 obtain⟨_,_,hnm,hlc⟩:=zcr.1 hloc
 rw[zuk]at p2
 obtain⟨B,hB⟩:∃B,b.conds=B:=⟨_,rfl⟩
 obtain⟨R,hR⟩:∃R,b.refs=R:=⟨_,rfl⟩
 have hcf:∀c∈B,(1≤c.kind∧c.kind≤6)∧(zax c.kind=0→lfP c.form)∧c.boxes.length≤1000:=fun c hc=>by
  rw[hB]at hlc p2
  have h1:=(zbI.1 (zfy hlc c hc)).1
  have h2:=zl4 p2 c hc
  rw[zna,Bool.or_eq_false_iff,decide_eq_false_iff_not]at h2
  obtain⟨a1,a2,a3,a4,a5,a6⟩:=zgM h1 h2.1
  refine⟨by omega,fun h0=>?_,?_⟩
  ·have hk1:c.kind=1:=by
    unfold zax at h0
    split at h0
    ·omega
    ·split at h0
     ·cases h0
     ·rw[if_pos (by omega)]at h0;cases h0
   have:=zea h1 (.inl hk1)
   exact zgP this.1 this.2
  ·have:zax c.kind≤2:=by unfold zax;(repeat' split)<;>decide
   omega
 have hsub:∀c∈B,∀x∈c.boxes,x.size<n∧zxO x:=fun c hc x hx=>by
  rw[hB]at hlc p2
  have h1:=zc9 (zbI.1 (zfy hlc c hc)).2 x hx
  have h2:=zl4 p2 c hc
  rw[zna,Bool.or_eq_false_iff]at h2
  have h3:=Box.size_sub (b:=b) (by rw[hB];exact hc)
  have h4:=zal.size_sub hx
  have e1:(btB x).length≤(zfT c.boxes).length:=by
   obtain⟨s,t,e⟩:=List.append_of_mem hx
   rw[e,zgK,zfT];simp only[List.length_append];omega
  have e2:(btC c).length≤(zd7 B).length:=by
   obtain⟨s,t,e⟩:=List.append_of_mem hc
   rw[e,zgL,zd7];simp only[List.length_append];omega
  rw[zux,List.length_append]at e2
  rw[zuw,hB]at p3
  simp only[List.length_append]at p3
  exact⟨by omega,⟨_,_,h1⟩,zsv h2.2 x hx,by omega⟩
 have hbb:btB b=[123]++rfT R++zd7 B++[125]:=by rw[zuw,hR,hB]
 rw[hbb]at p3
 simp only[List.length_append,List.length_cons,List.length_nil]at p3
 have hRl:=zu3 R
 have hBl:=zqj B
 obtain⟨J,hJ⟩:∃J:Nat→List UInt8,J=fun i=>[123]++rfT (R.take i):=⟨_,rfl⟩
 have hJ0:J 0=[123]:=by rw[hJ];rfl
 have hJs:∀i (h:i<R.length),J (i+1)=J i++(R[i].l++[32]):=fun i h=>by rw[hJ];simp only;rw[List.take_succ_eq_append_getElem h,zrV,←List.append_assoc];unfold rfT;simp
 have hJl:∀i,(J i).length≤1000000000:=fun i=>by
  have h1:rfT R=rfT (R.take i)++rfT (R.drop i):=by rw[←zrV,List.take_append_drop]
  rw[h1]at p3
  rw[hJ];simp only[List.length_append,List.length_cons,List.length_nil]at p3 ⊢
  omega
 obtain⟨K,hK⟩:∃K:Nat→List UInt8,K=fun i=>[123]++rfT R++zd7 (B.take i):=⟨_,rfl⟩
 have hK0:J R.length=K 0:=by rw[hJ,hK];simp only[List.take_length,List.take_zero];rw[zd7,List.append_nil]
 have hKe:btS b=⟨K B.length++[125]⟩:=by unfold btS;rw[hbb,hK];simp only[List.take_length]
 have hKd:∀i (h:i<B.length),K i++(zeR B[i].kind B[i].name B[i].form++zfT B[i].boxes)=K (i+1):=fun i h=>by rw[hK];simp only;rw[List.take_succ_eq_append_getElem h,zgL,zd7,zd7,List.append_nil,zux];simp only[List.append_assoc]
 have hKl:∀i,(K i).length≤1000000000-1:=fun i=>by
  have h1:zd7 B=zd7 (B.take i)++zd7 (B.drop i):=by rw[←zgL,List.take_append_drop]
  rw[h1]at p3
  rw[hK];simp only[List.length_append,List.length_cons,List.length_nil]at p3 ⊢
  omega
 obtain⟨Q,hQ⟩:∃Q:D→zas→Nat→Prop,Q=(fun d _ _=>D.val d=some (.fz (enc (btS b)))):=⟨_,rfl⟩
 rw[←hQ]
 rw[hKe]at hQ
 have kq:=Kp.mk hQ
 have kcf:=Kp.mk hcf
 have ksb:=Kp.mk hsub
 have kJs:=Kp.mk hJs
 have kKd:=Kp.mk hKd
 have kT:=Kp.mk hT
 clear hcf hsub hJs hKd hT hQ hKe hJ hK hbb
 have hRb:R.length≤1000000000:=by omega
 have hBb:B.length≤1000000000:=by omega
 clear p3 hRl hBl
 refine zaj (N:=69) hm kT.out 24000 (lst [1000011]) zET Tryd.func24 rfl rfl (by simp) (by kernel_rfl) ?_
 repeat'(first|refine And.intro ?_ ?_|exact True.intro|refine rq fun _=>?_|refine rf fun _=>?_|simp only[go_sem,hR,hB,zad,zab,zae,zaf,zaa,Tryd.f24,k24,k53,k54,k55])
 refine zar hm kT.out 24000 (lst [1000011]) (ι:=zd8 R.length fun _=>True)
  ⟨fun q=>⟨frL [(1,.ptr (24001,0) 0),(3,.fz (.s (J q.i))),(10,.fz (.sl (R.map enc))),(11,.fz (.i .i64 R.length)),(12,.fz (.i .i64 q.i))],hpL [((24001,0),some ⟨[.fz (.sl (R.map enc)),.fz (.sl (B.map enc))],true,false⟩)],1⟩,fun q=>R.length-q.i⟩
  ⟨0,by omega,trivial⟩ (by kernel_rfl) ?_ ?_
 ·refine zah ?_ ?_ ?_<;>simp only[go_sem,hJ0]
  all_goals first|done|rfl|omega
 rintro⟨i,hi,_⟩
 try simp only at hi
 have hl1:=hJl i
 rcases Nat.lt_or_ge i R.length with h1|h1
 ·obtain⟨x,hx⟩:∃x,R[i]=x:=⟨_,rfl⟩
  have es:=kJs.out i h1
  have hl2:=hJl (i+1)
  rw[hx]at es
  rw[es]at hl2
  simp only[List.length_append,List.length_cons,List.length_nil]at hl2
  repeat'(first|refine zaH.i (by unfold zaZ;simp only[List.length_append,List.length_cons,List.length_nil];omega) fun _=>?_|refine And.intro ?_ ?_|exact True.intro|refine rq fun _=>?_|refine rf fun _=>?_|simp only[go_sem,h1,hx,zad,zab,zae,zaf,zaa,Tryd.f24,k24,k53,k54,k55])
  all_goals
   refine⟨⟨i+1,by omega,trivial⟩,by simp only;omega,?_⟩
   refine zah ?_ ?_ ?_<;>simp only[go_sem,es]
   all_goals first|done|rfl|omega
 obtain rfl:i=R.length:=by omega
 repeat'(first|refine And.intro ?_ ?_|exact True.intro|refine rq fun _=>?_|refine rf fun _=>?_|simp only[go_sem,Nat.lt_irrefl,hB,zad,zab,zae,zaf,zaa,Tryd.f24,k24,k53,k54,k55])
 refine zar hm kT.out 24000 (lst [1000011]) (ι:=zcp B.length 1 fun _=>True)
  ⟨fun q=>⟨frL [(1,.ptr (24001,0) 0),(3,.fz (.s (K q.i))),(22,.fz (.sl (B.map enc))),(23,.fz (.i .i64 B.length)),(24,.fz (.i .i64 q.i))],hpL [((24001,0),some ⟨[.fz (.sl (R.map enc)),.fz (.sl (B.map enc))],true,false⟩)],q.m⟩,fun q=>B.length-q.i⟩
  ⟨0,1,by omega,by omega,trivial⟩ (by kernel_rfl) ?_ ?_
 ·refine zah ?_ ?_ ?_<;>(try simp only[go_sem,hK0])
  all_goals first|done|rfl|omega
 rintro⟨i,m,hi2,hm1,_⟩
 try simp only at hi2 hm1
 have hl3:=hKl i
 rcases Nat.lt_or_ge i B.length with h2|h2
 ·obtain⟨c,hc⟩:∃c,B[i]=c:=⟨_,rfl⟩
  have hcm:c∈B:=by rw[←hc];exact List.getElem_mem h2
  have es:=kKd.out i h2
  have hl4:=hKl (i+1)
  rw[hc]at es
  obtain⟨⟨hk1,hk6⟩,hlf,hbl⟩:=kcf.out c hcm
  obtain⟨C,hC⟩:∃C,c.boxes=C:=⟨_,rfl⟩
  have hCs:∀x∈C,x.size<n∧zxO x:=by rw[←hC];exact ksb.out c hcm
  rw[hC]at es hbl
  obtain⟨L,hL⟩:∃L:Nat→List UInt8,L=fun j=>K i++(zeR c.kind c.name c.form++zfT (C.take j)):=⟨_,rfl⟩
  have hL0:L 0=K i++zeR c.kind c.name c.form:=by rw[hL];simp only[List.take_zero];rw[zfT,List.append_nil]
  have hLe:L C.length=K (i+1):=by rw[hL];simp only[List.take_length];exact es
  have hLs:∀j (h:j<C.length),L (j+1)=L j++btB C[j]:=fun j h=>by rw[hL];simp only;rw[List.take_succ_eq_append_getElem h,zgK,zfT,zfT,List.append_nil];simp only[List.append_assoc]
  have hLl:∀j,(L j).length≤1000000000-1:=fun j=>by
   have h1:zfT C=zfT (C.take j)++zfT (C.drop j):=by rw[←zgK,List.take_append_drop]
   rw[h1]at es
   rw[←es]at hl4
   rw[hL];simp only[List.length_append]at hl4 ⊢
   omega
  have kLs:=Kp.mk hLs
  have kCs:=Kp.mk hCs
  have hl5:=hLl 0
  rw[hL0,List.length_append]at hl5
  have hdk:=znH c.kind
  clear hL hLs es hCs
  by_cases hb0:zax c.kind=0
  ·have hlf:=hlf hb0
   unfold zeR at hL0 hl5
   rw[if_pos hb0]at hL0 hl5
   simp only[List.length_append,List.length_cons,List.length_nil]at hl5
   have hL1:L 0=K i++59::32::(ztc c.kind++c.name.l)++32::txt c.form:=by rw[hL0];simp
   clear hL0
   repeat'(first|refine zaH.i (by unfold zaZ;simp only[List.length_append,List.length_cons,List.length_nil];omega) fun _=>?_|refine zaH.i ⟨hk1,hk6⟩ fun _=>?_|refine zaH.i hlf fun _=>?_|refine zay (id:=11) hm kT.out 24000 (lst [1000011]) zj1 (by kernel_rfl) (by kernel_rfl) ?_|refine And.intro ?_ ?_|exact True.intro|refine rq fun _=>?_|refine rf fun _=>?_|simp only[go_sem,h2,hc,hC,hb0,zj1,zyk,zyl,zad,zab,zae,zaf,zaa,Tryd.f24,k24,k53,k54,k55])
   refine zar hm kT.out 24000 (lst [1000011]) (ι:=zcp C.length (m+1) fun _=>True)
    ⟨fun q=>⟨frL [(1,.ptr (24001,0) 0),(3,.fz (.s (L q.i))),(7,.ptr (24007,m) 0),(22,.fz (.sl (B.map enc))),(23,.fz (.i .i64 B.length)),(24,.fz (.i .i64 i)),(53,.fz (.i .i64 C.length)),(54,.fz (.i .i64 q.i))],hpL [((24001,0),some ⟨[.fz (.sl (R.map enc)),.fz (.sl (B.map enc))],true,false⟩),((24007,m),some ⟨[.fz (.i .i64 c.kind),.fz (.s c.name.l),.fz (.i .i64 c.form.kind),.fz (.s c.form.name.l),.fz (.sl (c.form.words.map enc)),.fz (.sl (c.form.subs.map enc)),.fz (.sl (C.map enc))],true,false⟩)],q.m⟩,fun q=>C.length-q.i⟩
    ⟨0,m+1,by omega,by omega,trivial⟩ (by kernel_rfl) ?_ ?_
   ·refine zah ?_ ?_ ?_<;>(try simp only[go_sem,hL1])
    all_goals first|done|rfl|omega
   rintro⟨j,m2,hj,hm2,_⟩
   try simp only at hj hm2
   have hl6:=hLl j
   rcases Nat.lt_or_ge j C.length with h3|h3
   ·obtain⟨x,hx⟩:∃x,C[j]=x:=⟨_,rfl⟩
    have hxs:=kCs.out x (by rw[←hx];exact List.getElem_mem h3)
    have es:=kLs.out j h3
    have hl7:=hLl (j+1)
    rw[hx]at es
    rw[es,List.length_append]at hl7
    repeat'(first|refine zaH.i (by unfold zaZ;simp only[List.length_append,List.length_cons,List.length_nil];omega) fun _=>?_|refine zaH.i hxs fun _=>?_|refine And.intro ?_ ?_|exact True.intro|refine rq fun _=>?_|refine rf fun _=>?_|simp only[go_sem,h3,hx,zho,zad,zab,zae,zaf,zaa,Tryd.f24,k24,k53,k54,k55])
    all_goals
     refine⟨⟨j+1,m2,by omega,by omega,trivial⟩,by simp only;omega,?_⟩
     refine zah ?_ ?_ ?_<;>(try simp only[go_sem,es])
     all_goals first|done|rfl|omega
   obtain rfl:j=C.length:=by omega
   repeat'(first|refine And.intro ?_ ?_|exact True.intro|refine rq fun _=>?_|refine rf fun _=>?_|simp only[go_sem,Nat.lt_irrefl,zad,zab,zae,zaf,zaa,Tryd.f24,k24,k53,k54,k55])
   all_goals
    refine⟨⟨i+1,m2,by omega,by omega,trivial⟩,by simp only;omega,?_⟩
    refine zah ?_ ?_ ?_<;>(try simp only[go_sem,hLe])
    all_goals first|done|rfl|omega
  ·unfold zeR at hL0 hl5
   rw[if_neg hb0]at hL0 hl5
   simp only[List.length_append,List.length_cons,List.length_nil]at hl5
   have hL1:L 0=K i++59::32::(ztc c.kind++c.name.l):=by rw[hL0];simp
   clear hL0
   repeat'(first|refine zaH.i (by unfold zaZ;simp only[List.length_append,List.length_cons,List.length_nil];omega) fun _=>?_|refine zaH.i ⟨hk1,hk6⟩ fun _=>?_|refine zaH.i hlf fun _=>?_|refine zay (id:=11) hm kT.out 24000 (lst [1000011]) zj1 (by kernel_rfl) (by kernel_rfl) ?_|refine And.intro ?_ ?_|exact True.intro|refine rq fun _=>?_|refine rf fun _=>?_|simp only[go_sem,h2,hc,hC,hb0,zj1,zyk,zyl,zad,zab,zae,zaf,zaa,Tryd.f24,k24,k53,k54,k55])
   refine zar hm kT.out 24000 (lst [1000011]) (ι:=zcp C.length (m+1) fun _=>True)
    ⟨fun q=>⟨frL [(1,.ptr (24001,0) 0),(3,.fz (.s (L q.i))),(7,.ptr (24007,m) 0),(22,.fz (.sl (B.map enc))),(23,.fz (.i .i64 B.length)),(24,.fz (.i .i64 i)),(53,.fz (.i .i64 C.length)),(54,.fz (.i .i64 q.i))],hpL [((24001,0),some ⟨[.fz (.sl (R.map enc)),.fz (.sl (B.map enc))],true,false⟩),((24007,m),some ⟨[.fz (.i .i64 c.kind),.fz (.s c.name.l),.fz (.i .i64 c.form.kind),.fz (.s c.form.name.l),.fz (.sl (c.form.words.map enc)),.fz (.sl (c.form.subs.map enc)),.fz (.sl (C.map enc))],true,false⟩)],q.m⟩,fun q=>C.length-q.i⟩
    ⟨0,m+1,by omega,by omega,trivial⟩ (by kernel_rfl) ?_ ?_
   ·refine zah ?_ ?_ ?_<;>(try simp only[go_sem,hL1])
    all_goals first|done|rfl|omega
   rintro⟨j,m2,hj,hm2,_⟩
   try simp only at hj hm2
   have hl6:=hLl j
   rcases Nat.lt_or_ge j C.length with h3|h3
   ·obtain⟨x,hx⟩:∃x,C[j]=x:=⟨_,rfl⟩
    have hxs:=kCs.out x (by rw[←hx];exact List.getElem_mem h3)
    have es:=kLs.out j h3
    have hl7:=hLl (j+1)
    rw[hx]at es
    rw[es,List.length_append]at hl7
    repeat'(first|refine zaH.i (by unfold zaZ;simp only[List.length_append,List.length_cons,List.length_nil];omega) fun _=>?_|refine zaH.i hxs fun _=>?_|refine And.intro ?_ ?_|exact True.intro|refine rq fun _=>?_|refine rf fun _=>?_|simp only[go_sem,h3,hx,zho,zad,zab,zae,zaf,zaa,Tryd.f24,k24,k53,k54,k55])
    all_goals
     refine⟨⟨j+1,m2,by omega,by omega,trivial⟩,by simp only;omega,?_⟩
     refine zah ?_ ?_ ?_<;>(try simp only[go_sem,es])
     all_goals first|done|rfl|omega
   obtain rfl:j=C.length:=by omega
   repeat'(first|refine And.intro ?_ ?_|exact True.intro|refine rq fun _=>?_|refine rf fun _=>?_|simp only[go_sem,Nat.lt_irrefl,zad,zab,zae,zaf,zaa,Tryd.f24,k24,k53,k54,k55])
   all_goals
    refine⟨⟨i+1,m2,by omega,by omega,trivial⟩,by simp only;omega,?_⟩
    refine zah ?_ ?_ ?_<;>(try simp only[go_sem,hLe])
    all_goals first|done|rfl|omega
 obtain rfl:i=B.length:=by omega
 repeat'(first|refine zaH.i (by unfold zaZ;simp only[List.length_append,List.length_cons,List.length_nil];omega) fun _=>?_|refine And.intro ?_ ?_|exact True.intro|refine rq fun _=>?_|refine rf fun _=>?_|simp only[go_sem,Nat.lt_irrefl,zad,zab,zae,zaf,zaa,Tryd.f24,k24,k53,k54,k55])
 all_goals
  rw[kq.out]
  simp only[go_sem]
  all_goals first|done|rfl|omega
end Go.Proofs.YtalbdmcklgglbaaDoor
