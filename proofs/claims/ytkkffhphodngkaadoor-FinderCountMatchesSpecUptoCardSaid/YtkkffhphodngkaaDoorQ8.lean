import Derived.Test.YtkkffhphodngkaaDoorAT
import Derived.Test.YtkkffhphodngkaaDoorY0
set_option maxRecDepth 100000
set_option maxHeartbeats 1000000
set_option linter.unusedSimpArgs false
namespace Go.Proofs.YtkkffhphodngkaaDoor
open Go Go.Abs Go.Proofs
attribute [local irreducible] zax
theorem zaL {n b:Nat}(h:n≤1000000000)(hb:b≤256):fits n b:=by
 have h1:n≤zba:=Nat.le_trans h (by unfold zba;decide)
 refine⟨h1,Nat.le_trans (Nat.mul_le_mul_left _ hb) ?_⟩
 omega
def zpK (p:Abs.zaf×Int):FD:= .agg [.i .i64 p.1.kind,.s p.1.name.l,.sl (p.1.words.map enc),.sl (p.1.subs.map enc),.i .i64 p.2]
theorem zz8 (l:List (Abs.zaf×Int)):zbs (l.map zpK) 5:=fun x hx=>by
 obtain⟨a,_,rfl⟩:=List.mem_map.1 hx;rfl
theorem zgz (l:List (Abs.zaf×Int)):(zae (l.map zpK)).length=l.length*5:=by
 rw[za3 (za8 (zz8 l)),List.length_map]
theorem zjh {xs ys:List FD}:zae (xs++ys)=zae xs++zae ys:=by simp[zae]
theorem zl6 (op:Bool)(f:Abs.zaf):(f.kind=2∧zbl op f=0)∨(f.kind=3∧zbl op f=0)∨(f.kind=10∧op=true∧zbl op f=0)∨(f.kind=10∧op=false∧zbl op f= -1)∨(f.kind=8∧zbl op f=1)∨(f.kind=9∧zbl op f=1)∨
  (¬f.kind=2∧¬f.kind=3∧¬f.kind=10∧¬f.kind=8∧¬f.kind=9∧zbl op f=zd3 f.kind):=by
 rcases zis op f with h|h|h|h|⟨h2,h3,h10,hp⟩
 ·exact .inl h
 ·exact .inr (.inl h)
 ·exact .inr (.inr (.inl h))
 ·exact .inr (.inr (.inr (.inl h)))
 ·by_cases h8:f.kind=8
  ·exact .inr (.inr (.inr (.inr (.inl ⟨h8,by rw[hp,h8];rfl⟩))))
  by_cases h9:f.kind=9
  ·exact .inr (.inr (.inr (.inr (.inr (.inl ⟨h9,by rw[hp,h9];rfl⟩)))))
  exact .inr (.inr (.inr (.inr (.inr (.inr ⟨h2,h3,h10,h8,h9,hp⟩)))))
theorem zEl:zd3 8=1:=by decide
theorem zEm:zd3 9=1:=by decide
structure Stk where
 st:List (Abs.zaf×Int)
 cells:List D
 g:Nat
 m:Nat
 n:Nat
theorem zxz {cells:List D}{l st:List (Abs.zaf×Int)}{x:Abs.zaf×Int}(hst:st=l++[x])(hc:cells.take (st.length*5)=zae (st.map zpK))(hl:st.length*5≤cells.length):
  (cells.drop (l.length*5)).take 5=[.fz (.i .i64 x.1.kind),.fz (.s x.1.name.l),.fz (.sl (x.1.words.map enc)),.fz (.sl (x.1.subs.map enc)),.fz (.i .i64 x.2)]∧cells.take (l.length*5)=zae (l.map zpK):=by
 subst hst
 rw[List.length_append,List.length_singleton,List.map_append,zjh]at hc
 have hl2:=zgz l
 have h1:cells=(zae (l.map zpK)++zae ([x].map zpK))++cells.drop ((l.length+1)*5):=by rw[←hc,List.take_append_drop]
 constructor
 ·rw[h1,List.append_assoc,List.drop_append_of_le_length (by omega),List.drop_of_length_le (by omega),List.nil_append]
  rfl
 ·rw[h1,List.append_assoc,List.take_append_of_le_length (by omega),List.take_of_length_le (by omega)]
def zcl (l:List (Abs.zaf×Int))(s:List Abs.zaf)(d:Int)(j:Nat):List (Abs.zaf×Int):=l++((s.drop j).map fun g=>(g,d+1)).reverse
theorem zgG {l:List (Abs.zaf×Int)}{s:List Abs.zaf}{d:Int}:zcl l s d s.length=l:=by simp[zcl]
theorem zjs {l:List (Abs.zaf×Int)}{s:List Abs.zaf}{d:Int}{j:Nat}:(zcl l s d j).length=l.length+(s.length-j):=by simp[zcl]
theorem znB {l:List (Abs.zaf×Int)}{s:List Abs.zaf}{d:Int}{j:Nat}(h:j<s.length):zcl l s d j=zcl l s d (j+1)++[(s[j],d+1)]:=by
 unfold zcl;rw[List.drop_eq_getElem_cons h,List.map_cons,List.reverse_cons,List.append_assoc]
theorem zql {l:List (Abs.zaf×Int)}{s:List Abs.zaf}{d:Int}:(zcl l s d 0).reverse=s.map (fun g=>(g,d+1))++l.reverse:=by simp[zcl]
theorem zqk {l:List (Abs.zaf×Int)}{s:List Abs.zaf}{d:Int}{j:Nat}{a:Abs.zaf×Int}(h:a∈zcl l s d j):a∈l∨∃g∈s,a=(g,d+1):=by
 unfold zcl at h
 rcases List.mem_append.1 h with h|h
 ·exact .inl h
 ·rw[List.mem_reverse,List.mem_map]at h
  obtain⟨g,hg,rfl⟩:=h
  exact .inr ⟨g,List.mem_of_mem_drop hg,rfl⟩
structure zGM where
 j:Nat
 cells:List D
 g:Nat
 m:Nat
set_option maxHeartbeats 8000000 in
theorem f37:zan Tryd.prog G0 (Q18.add 37 (sp2 (fun(f:Abs.zaf) op=>zaA op f) fun _ op=>op=false)):=by
 refine zbq zF0 zzn fun f op hop hw _=>?_
 obtain rfl:op=false:=hop
 obtain⟨Q,hQ⟩:∃Q:D→zau→Nat→Prop,Q=(fun d _ _=>D.val d=some (.fz (enc (zaA false f)))):=⟨_,rfl⟩
 rw[←hQ]
 have hres:∀{c i:Int} {H':zau} {n':Nat},zaA false f=⟨c,i⟩→Q (.agg [.fz (.i .i64 c),.fz (.i .i64 i)]) H' n':=fun e=>by
  rw[hQ];show _=some (D.fz (enc (zaA false f)));rw[e];rfl
 have kr:=Kp.mk @hres
 clear hres hQ
 refine zah (N:=150) hm zzn 37000 (lst [19,148]) zF0 Tryd.func37 rfl rfl (by simp) (by kernel_rfl) ?_
 repeat'(first|refine rq fun _=>?_|simp only[go_sem])
 refine zai hm zzn 37000 (lst [19,148]) (ι:={q:Stk // Kp (q.g<q.m∧q.cells.take (q.st.length*5)=zae (q.st.map zpK)∧q.st.length*5≤q.cells.length∧4≤q.m∧q.n≤200∧q.st.length≤1+2*q.n∧(∀a∈q.st,(enc a.1).Wf∧0≤a.2∧a.2≤41)∧ziA false q.st.reverse q.n=zaA false f)})
  ⟨fun q=>⟨frL [(1,.fz (.b false)),(4,.ptr (37004,1) 0),(5,.arr (37148,q.1.g) 5 0 q.1.st.length),(6,.fz (.i .i64 q.1.n))],
   hpL [((37004,1),some ⟨[.fz (.i .i64 0),.fz (.i .i64 0)],true,false⟩),((37148,q.1.g),some ⟨q.1.cells,false,false⟩)],q.1.m⟩,fun q=>201-q.1.n⟩
  ⟨⟨[(f,1)],[.fz (.i .i64 f.kind),.fz (.s f.name.l),.fz (.sl (f.words.map enc)),.fz (.sl (f.subs.map enc)),.fz (.i .i64 1)],3,4,0⟩,⟨by simp only;omega,rfl,Nat.le_refl _,by simp only;omega,by simp only;omega,by simp,by simp only[List.mem_singleton];rintro a rfl;exact⟨hw,by simp,by simp⟩,zsC⟩⟩ (by kernel_rfl) ?_ ?_
 ·refine zbc [((37148,3),(37019,2))] [] [] ?_ ?_ ?_ ?_ ?_<;>simp only[go_sem,zAv,zoP,vL]
 rintro⟨⟨st,cells,g,m,n⟩,kp⟩
 obtain⟨hg,hc,hl,hm4,hn,hlen,hwf,hrest⟩:=kp.out
 try simp only at hm4 hn hlen hwf hrest hg hc hl
 rcases List.eq_nil_or_concat st with rfl|⟨l,⟨x,d⟩,hst⟩
 ·have e:zaA false f=⟨0,0⟩:=by rw[←hrest];rfl
  repeat'(first|refine rq fun _=>?_|simp only[go_sem,List.length_nil,Tryd.f37])
  exact kr.out e
 rw[List.concat_eq_append]at hst
 obtain⟨hcell,hcut⟩:=zxz hst hc hl
 have hl1:st.length=l.length+1:=by rw[hst,List.length_append,List.length_singleton]
 have e1:((st.length:Int)-1).toNat=l.length:=by omega
 have e1b:((st.length:Int)-1-0).toNat=l.length:=by omega
 have hpos:0<(st.length:Int):=by omega
 have hl5:l.length*5+5≤cells.length:=by omega
 have hll:l.length≤2*n:=by omega
 obtain⟨hx1,hx2,hx3⟩:=hwf (x,d) (by rw[hst];simp)
 simp only at hx1 hx2 hx3 hcell
 have hlwf:∀a∈l,(enc a.1).Wf∧0≤a.2∧a.2≤41:=fun a ha=>hwf a (by rw[hst];exact List.mem_append_left _ ha)
 rw[hst,List.reverse_append,List.reverse_singleton,List.singleton_append,zqs]at hrest
 have hbad:∀{c:Int} {H':zau} {n':Nat},zdj false x d n=c→c≠0→Q (.agg [.fz (.i .i64 c),.fz (.i .i64 n)]) H' n':=fun h1 h2=>kr.out (by rw[←hrest,if_pos (by rw[h1];exact h2),h1])
 have hwl:x.words.length≤zba:=by
  have h:=za9 (by have h:=hx1;rw[zaH]at h;exact h) (FD.sl (x.words.map enc)) (by simp)
  have:=zbV h
  simpa using this
 have hsl:x.subs.length≤zba:=by
  have h:=za9 (by have h:=hx1;rw[zaH]at h;exact h) (FD.sl (x.subs.map enc)) (by simp)
  have:=zbV h
  simpa using this
 have hsw:∀g∈x.subs,(enc g).Wf:=fun g hg=>zdO (za9 (by have h:=hx1;rw[zaH]at h;exact h) (FD.sl (x.subs.map enc)) (by simp)) _ (List.mem_map_of_mem hg)
 unfold zba at hwl hsl
 have kb:=Kp.mk @hbad
 have kR:=Kp.mk hrest
 have kW:=Kp.mk hlwf
 have kS:=Kp.mk hsw
 have kC:=Kp.mk hcut
 clear hbad hrest hlwf hsw hst hx1 hcut hl1 hlen hwf hc hl hw
 rcases zl6 false x with⟨hk,hp⟩|⟨hk,hp⟩|⟨_,hop,_⟩|⟨hk,_,hp⟩|⟨hk,hp⟩|⟨hk,hp⟩|⟨hk,hk3,hk10,hk8,hk9,hp⟩
 rotate_left 2
 ·exact Bool.noConfusion hop
 all_goals repeat'(first|refine za0.d (fun _=>?_) (fun _=>?_)|refine za0.i (fun _=>?_) (fun _=>?_)|refine rq fun _=>?_|simp only[go_sem,Nat.zero_add,zvU,zAH,zAI,zEl,zEm,Tryd.f37, *])
 all_goals try(exfalso;omega)
 all_goals try
  refine kb.out (by first
   |rw[zb6 hp,if_pos (by omega)]
   |rw[zb6 hp,if_neg (by omega),if_pos (by omega)]
   |rw[zb6 hp,if_neg (by omega),if_neg (by omega),if_pos (by omega)]
   |rw[zb6 hp,if_neg (by omega),if_neg (by omega),if_neg (by omega),if_pos ⟨by omega,by first|assumption|simp_all [zac]⟩]
   |rw[zb6 hp,if_neg (by omega),if_neg (by omega),if_neg (by omega),if_neg (by omega),if_pos ⟨by omega,by assumption⟩]) (by decide)
 all_goals
  have hN:zdj false x d n=if x.words.all zax=false then 10 else 0:=by
   rw[zb6 hp,if_neg (by omega),if_neg (by omega),if_neg (by omega),if_neg (by first|omega|(rintro⟨_,h⟩;simp_all [zac])),if_neg (by first|omega|(rintro⟨_,h⟩;simp_all))]
  have hs2:x.subs.length≤2:=by
   have h2:zbl false x≤2:=by
    unfold zbl zd3
    rw[if_neg (by simp)]
    repeat'(split<;>try decide)
   omega
  have hw0:((0:Nat):Int)=0:=rfl
  have hw10:((10:Nat):Int)=10:=rfl
  refine zai hm zzn 37000 (lst [19,148]) (ι:=zyG (m+1+1) x.words.length fun i c=>c=if(x.words.take i).all zax=true then 0 else 10)
   ⟨fun q=>⟨frL [(1,.fz (.b false)),(4,.ptr (37004,1) 0),(5,.arr (37148,g) 5 0 l.length),(6,.fz (.i .i64 n)),(7,.ptr (37007,m) 0),(8,.ptr (37008,m+1) 0),
     (13,.fz (.i .i64 q.n)),(114,.fz (.sl (x.words.map enc))),(115,.fz (.i .i64 x.words.length)),(116,.fz (.i .i64 q.j))],
    hpL [((37007,m),some ⟨[.fz (.i .i64 x.kind),.fz (.s x.name.l),.fz (.sl (x.words.map enc)),.fz (.sl (x.subs.map enc)),.fz (.i .i64 d)],true,false⟩),
     ((37008,m+1),some ⟨[.fz (.i .i64 x.kind),.fz (.s x.name.l),.fz (.sl (x.words.map enc)),.fz (.sl (x.subs.map enc))],true,false⟩),
     ((37004,1),some ⟨[.fz (.i .i64 0),.fz (.i .i64 0)],true,false⟩),((37148,g),some ⟨cells,false,false⟩)],q.m⟩,fun q=>x.words.length-q.j⟩
   ⟨0,0,m+1+1,by omega,by omega,by simp⟩ (by kernel_rfl) ?_ ?_
  ·refine zag ?_ ?_ ?_<;>simp only[go_sem, *]
  rintro⟨i,c,m2,hi,hm2,hc⟩
  try simp only at hi hm2 hc
  rcases Nat.lt_or_ge i x.words.length with h1|h1
  ·cases hnm:zax x.words[i]with
   |false=>
    repeat'(first|refine rq fun _=>?_|simp only[go_sem,h1,hnm,zac,zaa,Tryd.f37])
    refine⟨⟨i+1,10,m2,by omega,by omega,by rw[zd9 h1,hnm,Bool.and_false];rfl⟩,by simp only;omega,?_⟩
    refine zag ?_ ?_ ?_<;>simp only[go_sem,hw10]
   |true=>
    repeat'(first|refine rq fun _=>?_|simp only[go_sem,h1,hnm,zac,zaa,Tryd.f37])
    refine⟨⟨i+1,c,m2,by omega,by omega,by rw[zd9 h1,hnm,Bool.and_true];exact hc⟩,by simp only;omega,?_⟩
    refine zag ?_ ?_ ?_<;>simp only[go_sem]
  have h1':¬i<x.words.length:=by omega
  rw[List.take_of_length_le h1]at hc
  cases hall:x.words.all zax with
  |false=>
   rw[hall]at hN hc
   rw[if_pos rfl]at hN
   rw[if_neg (by simp)]at hc
   subst hc
   repeat'(first|refine rq fun _=>?_|simp only[go_sem,h1',hw10,Tryd.f37])
   exact kb.out hN (by decide)
  |true=>
   rw[hall]at hN hc
   rw[if_neg (by simp)]at hN
   rw[if_pos rfl]at hc
   subst hc
   have hrest:=kR.out
   rw[if_neg (by rw[hN];simp)]at hrest
   repeat'(first|refine rq fun _=>?_|simp only[go_sem,h1',hw0,Tryd.f37])
   refine zai hm zzn 37000 (lst [19,148]) (ι:={q:zGM // q.j≤x.subs.length∧q.g<q.m∧m+1<q.m∧q.cells.take ((zcl l x.subs d q.j).length*5)=zae ((zcl l x.subs d q.j).map zpK)∧(zcl l x.subs d q.j).length*5≤q.cells.length})
    ⟨fun q=>⟨frL [(1,.fz (.b false)),(4,.ptr (37004,1) 0),(5,.arr (37148,q.1.g) 5 0 (zcl l x.subs d q.1.j).length),(6,.fz (.i .i64 n)),(7,.ptr (37007,m) 0),(8,.ptr (37008,m+1) 0),(16,.fz (.i .i64 ((q.1.j:Int)-1)))],
     hpL [((37007,m),some ⟨[.fz (.i .i64 x.kind),.fz (.s x.name.l),.fz (.sl (x.words.map enc)),.fz (.sl (x.subs.map enc)),.fz (.i .i64 d)],true,false⟩),
      ((37008,m+1),some ⟨[.fz (.i .i64 x.kind),.fz (.s x.name.l),.fz (.sl (x.words.map enc)),.fz (.sl (x.subs.map enc))],true,false⟩),
      ((37004,1),some ⟨[.fz (.i .i64 0),.fz (.i .i64 0)],true,false⟩),((37148,q.1.g),some ⟨q.1.cells,false,false⟩)],q.1.m⟩,fun q=>q.1.j⟩
    ⟨⟨x.subs.length,cells,g,m2⟩,Nat.le_refl _,by simp only;omega,by simp only;omega,by simp only;rw[zgG];exact kC.out,by simp only;rw[zgG];omega⟩ (by kernel_rfl) ?_ ?_
   ·refine zag ?_ ?_ ?_<;>simp only[go_sem,zgG]
   rintro⟨⟨j,cells2,g2,m3⟩,hj,hg2,hm3,hc2,hl2⟩
   try simp only at hj hg2 hm3 hc2 hl2
   rcases j with _|j
   ·repeat'(first|refine rq fun _=>?_|simp only[go_sem,Tryd.f37,hw0,Int.zero_sub,Int.reduceNeg,Int.reduceSub])
    refine⟨⟨⟨zcl l x.subs d 0,cells2,g2,m3,n+1⟩,⟨hg2,hc2,hl2,by simp only;omega,by simp only;omega,by simp only;rw[zjs];omega,fun a ha=>?_,?_⟩⟩,by simp only;omega,?_⟩
    ·rcases zqk ha with h|⟨h,h2,rfl⟩
     ·exact kW.out a h
     ·exact⟨kS.out _ h2,by simp only;omega,by simp only;omega⟩
    ·simp only;rw[zql];exact hrest
    ·refine zag ?_ ?_ ?_<;>simp only[go_sem]
   ·have hps:=znB (l:=l) (d:=d) (show j<x.subs.length by omega)
    have e2:((j:Int)+1-1)=(j:Int):=by omega
    have hj2:j<x.subs.length:=by omega
    have hpl:=zjs (l:=l) (s:=x.subs) (d:=d) (j:=j+1)
    repeat'(first|refine rq fun _=>?_|refine zaB.i ⟨by omega,zaL (by omega) (by decide)⟩ fun _=>?_|simp only[go_sem,e2,hj2,zaa,Nat.zero_add,List.drop_zero,hc2,Tryd.f37])
    refine⟨⟨⟨j,zae ((zcl l x.subs d (j+1)).map zpK)++zae [zpK (x.subs[j],d+1)],m3,m3+1⟩,by simp only;omega,by simp only;omega,by simp only;omega,?_,?_⟩,by simp only;omega,?_⟩
    ·simp only
     rw[hps,List.map_append,zjh,List.length_append,List.length_singleton,List.take_of_length_le]
     ·rfl
     ·rw[List.length_append,zgz,show(zae [zpK (x.subs[j],d+1)]).length=5 from rfl];omega
    ·simp only
     rw[hps,List.length_append,List.length_singleton,List.length_append,zgz,show(zae [zpK (x.subs[j],d+1)]).length=5 from rfl];omega
    ·have hps2:(zcl l x.subs d j).length=(zcl l x.subs d (j+1)).length+1:=by rw[hps];simp
     refine zag ?_ ?_ ?_<;>simp only[go_sem,hps2,zpK]
def Q19:Tbl:=Q18.add 37 (sp2 (fun(f:Abs.zaf) op=>zaA op f) fun _ op=>op=false)
attribute [go_sem] Q19
theorem zES:zan Tryd.prog G0 Q19:=f37
def Q20:Tbl:=Q19.add 21 (sp1 (fun(f:Abs.zaf)=>zaA false f) fun _=>True)
attribute [go_sem] Q20
theorem zwH:zan Tryd.prog G0 Q20:=by
 refine zb4 zFP zES fun f _ hf=>?_
 refine zah (N:=5) hm zES 21000 (lst []) zFP Tryd.func21 rfl rfl (by simp) (by kernel_rfl) ?_
 repeat'(first|refine rq fun _=>?_|simp only[go_sem,Tryd.f21])
end Go.Proofs.YtkkffhphodngkaaDoor
