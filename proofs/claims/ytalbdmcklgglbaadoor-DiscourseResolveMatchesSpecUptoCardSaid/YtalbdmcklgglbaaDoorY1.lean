/- several texts of this proof in one; no conditions -/
import Derived.Test.YtalbdmcklgglbaaDoorAT
import Derived.Test.YtalbdmcklgglbaaDoorY0
import Derived.Test.YtalbdmcklgglbaaDoorY10
import Derived.Test.YtalbdmcklgglbaaDoorY11
import Derived.Test.YtalbdmcklgglbaaDoorSH
set_option maxRecDepth 100000
set_option maxHeartbeats 1000000
set_option linter.unusedSimpArgs false
namespace Go.Proofs.YtalbdmcklgglbaaDoor
open Go Go.Abs Go.Proofs
theorem zmX {l:List Abs.Box}{i:Nat}(h:i<l.length):zbX (l.take (i+1))=zbX (l.take i)++l[i].refs:=by
 unfold zbX;rw[List.take_succ_eq_append_getElem h,List.flatMap_append];simp
theorem zrJ {l:List Abs.Box}{i:Nat}:(zbX (l.take i)).length≤(zbX l).length:=by
 have h:=congrArg (fun x=>(zbX x).length) (List.take_append_drop i l)
 simp only[zbX,List.flatMap_append,List.length_append]at h ⊢
 omega
def Q14:Tbl:=Q13.add 57 (sp1 zbX fun l=>(zbX l).length≤1000000)
attribute [go_sem] Q14
theorem zDE:zan Tryd.prog G0 Q14:=by
 refine zbY zFe zBK fun l hlen hs=>?_
 have la:=zc1 hs
 simp only[List.length_map,zaZ]at la
 refine zaj (N:=19) hm zBK 57000 (lsw [16] []) zFe Tryd.func57 rfl rfl (by simp) (by kernel_rfl) ?_
 simp only[go_sem]
 refine zar hm zBK 57000 (lsw [16] []) (ι:=zd5 l.length 1 fun _=>True)
  ⟨fun q=>⟨frL [(0,.fz (enc l)),(3,.ow (57016,q.g) 1 ((zbX (l.take q.i)).map enc)),(6,.fz (.i .i64 l.length)),(7,.fz (.i .i64 q.i))],hpL [((57016,q.g),some tok)],q.m⟩,fun q=>l.length-q.i⟩
  ⟨0,0,1,by omega,by omega,by omega,trivial⟩ (by kernel_rfl) ?_ ?_
 ·refine zaO [] [(57016,0)] [] ?_ ?_ ?_ ?_ ?_<;>simp only[go_sem]
  all_goals rfl
 rintro⟨i,g,m,hi,hg,hm1,_⟩
 rcases Nat.lt_or_ge i l.length with h1|h1
 ·have e:=zmX h1
  have hb:(zbX (l.take i)).length+l[i].refs.length≤1000000:=by
   have:=zrJ (l:=l) (i:=i+1)
   rw[e,List.length_append]at this;omega
  repeat'(first|refine rq fun _=>?_|refine zaH.i (zqV (by omega) (by decide)) fun _=>?_|refine rq fun _=>?_|simp only[go_sem,h1,zaa])
  refine⟨⟨i+1,m,m+1,by omega,by omega,by omega,trivial⟩,by simp only;omega,?_⟩
  refine zah ?_ ?_ ?_<;>simp only[go_sem,e,List.map_append]
 ·obtain rfl:i=l.length:=by omega
  repeat'(first|refine rq fun _=>?_|simp only[go_sem,Nat.lt_irrefl,List.take_length,Tryd.f57])
def Q15:Tbl:=Q14.add 21 (sp2 zhM fun _ _=>True)
attribute [go_sem] Q15
theorem zDF:zan Tryd.prog G0 Q15:=by
 refine zbr zER zDE fun nm w _ _ hs=>?_
 refine zaj (N:=8) hm zDE 21000 (lst []) zER Tryd.func21 rfl rfl (by simp) (by kernel_rfl) ?_
 repeat'(first|refine rq fun _=>?_|simp only[go_sem,Tryd.f21,zhM])
def sX:Str:=⟨[120]⟩
def sY:Str:=⟨[121]⟩
def zA6:Str:=⟨[100,111,103]⟩
def zrX:Abs.Box:= .mk [sX,sY] [.mk 1 ⟨[]⟩ (zhM zA6 [sX]) [],.mk 5 sY (zhM zA6 []) []]
def Q16:Tbl:=Q15.add 6 (sp0 zrX)
attribute [go_sem] Q16
theorem zDG:zan Tryd.prog G0 Q16:=by
 refine zzH zDF ?_
 refine zaj (N:=9) hm zDF 6000 (lst []) ok6 Tryd.func6 rfl rfl (by simp) (by kernel_rfl) ?_
 repeat'(first|refine rq fun _=>?_|simp only[go_sem,Q15,zhM,zrX,sX,sY,zA6,Tryd.f6])
end Go.Proofs.YtalbdmcklgglbaaDoor
namespace Go.Proofs.YtalbdmcklgglbaaDoor
open Go Go.Abs Go.Proofs
def Q17:Tbl:=Q16.add 31 (sp1 zax fun _=>True)
attribute [go_sem] Q17
theorem zDH:zan Tryd.prog G0 Q17:=by
 refine zbY zEY zDG fun k _ hs=>?_
 refine zaj (N:=13) hm zDG 31000 (lst []) zEY Tryd.func31 rfl rfl (by simp) (by kernel_rfl) ?_
 repeat'(first|refine zaB.d (fun _=>?_) (fun _=>?_)|refine rq fun _=>?_|simp only[go_sem,Tryd.f31, *])
 all_goals(unfold zax;first|rw[if_pos (by omega)]|rw[if_neg (by omega),if_pos (by omega)]|rw[if_neg (by omega),if_neg (by omega),if_pos (by omega)]|rw[if_neg (by omega),if_neg (by omega),if_neg (by omega)])
theorem zlv {f:Abs.zac}:zbJ f=decide (f.kind=0∧f.name.l=[]∧(f.words.length:Int)=0∧(f.subs.length:Int)=0):=by
 have e1:((f.words.length:Int)=0)=(f.words.length=0):=propext (by omega)
 have e2:((f.subs.length:Int)=0)=(f.subs.length=0):=propext (by omega)
 unfold zbJ
 rw[Bool.eq_iff_iff]
 simp only[e1,e2,Bool.and_eq_true,decide_eq_true_eq,zm7,and_assoc]
def Q18:Tbl:=Q17.add 32 (sp1 zbJ fun _=>True)
attribute [go_sem] Q18
theorem zyv:zan Tryd.prog G0 Q18:=by
 refine zbY zEZ zDH fun f _ hs=>?_
 refine zaj (N:=23) hm zDH 32000 (lst []) zEZ Tryd.func32 rfl rfl (by simp) (by kernel_rfl) ?_
 repeat'(first|refine zaB.d (fun _=>?_) (fun _=>?_)|refine rq fun _=>?_|simp only[go_sem,Tryd.f32, *])
 all_goals simp only[zlv, *,true_and,false_and,decide_false]
end Go.Proofs.YtalbdmcklgglbaaDoor
namespace Go.Proofs.YtalbdmcklgglbaaDoor
open Go Go.Abs Go.Proofs
attribute [local irreducible] zai
theorem zbf {n b:Nat}(h:n≤1000000000)(hb:b≤256):fits n b:=by
 have h1:n≤zaZ:=Nat.le_trans h (by unfold zaZ;decide)
 refine⟨h1,Nat.le_trans (Nat.mul_le_mul_left _ hb) ?_⟩
 omega
def zoS (p:Abs.zac×Int):FD:= .agg [.i .i64 p.1.kind,.s p.1.name.l,.sl (p.1.words.map enc),.sl (p.1.subs.map enc),.i .i64 p.2]
theorem zzg (l:List (Abs.zac×Int)):zbi (l.map zoS) 5:=fun x hx=>by
 obtain⟨a,_,rfl⟩:=List.mem_map.1 hx;rfl
theorem zf2 (l:List (Abs.zac×Int)):(zag (l.map zoS)).length=l.length*5:=by
 rw[zbN (za9 (zzg l)),List.length_map]
theorem ziB {xs ys:List FD}:zag (xs++ys)=zag xs++zag ys:=by simp[zag]
theorem zlz (op:Bool)(f:Abs.zac):(f.kind=2∧za2 op f=0)∨(f.kind=3∧za2 op f=0)∨(f.kind=10∧op=true∧za2 op f=0)∨(f.kind=10∧op=false∧za2 op f= -1)∨(f.kind=8∧za2 op f=1)∨(f.kind=9∧za2 op f=1)∨
  (¬f.kind=2∧¬f.kind=3∧¬f.kind=10∧¬f.kind=8∧¬f.kind=9∧za2 op f=zcn f.kind):=by
 rcases zhK op f with h|h|h|h|⟨h2,h3,h10,hp⟩
 ·exact .inl h
 ·exact .inr (.inl h)
 ·exact .inr (.inr (.inl h))
 ·exact .inr (.inr (.inr (.inl h)))
 ·by_cases h8:f.kind=8
  ·exact .inr (.inr (.inr (.inr (.inl ⟨h8,by rw[hp,h8];rfl⟩))))
  by_cases h9:f.kind=9
  ·exact .inr (.inr (.inr (.inr (.inr (.inl ⟨h9,by rw[hp,h9];rfl⟩)))))
  exact .inr (.inr (.inr (.inr (.inr (.inr ⟨h2,h3,h10,h8,h9,hp⟩)))))
theorem zDi:zcn 8=1:=by decide
theorem zDj:zcn 9=1:=by decide
structure Stk where
 st:List (Abs.zac×Int)
 cells:List D
 g:Nat
 m:Nat
 n:Nat
theorem zwO {cells:List D}{l st:List (Abs.zac×Int)}{x:Abs.zac×Int}(hst:st=l++[x])(hc:cells.take (st.length*5)=zag (st.map zoS))(hl:st.length*5≤cells.length):
  (cells.drop (l.length*5)).take 5=[.fz (.i .i64 x.1.kind),.fz (.s x.1.name.l),.fz (.sl (x.1.words.map enc)),.fz (.sl (x.1.subs.map enc)),.fz (.i .i64 x.2)]∧cells.take (l.length*5)=zag (l.map zoS):=by
 subst hst
 rw[List.length_append,List.length_singleton,List.map_append,ziB]at hc
 have hl2:=zf2 l
 have h1:cells=(zag (l.map zoS)++zag ([x].map zoS))++cells.drop ((l.length+1)*5):=by rw[←hc,List.take_append_drop]
 constructor
 ·rw[h1,List.append_assoc,List.drop_append_of_le_length (by omega),List.drop_of_length_le (by omega),List.nil_append]
  rfl
 ·rw[h1,List.append_assoc,List.take_append_of_le_length (by omega),List.take_of_length_le (by omega)]
def zch (l:List (Abs.zac×Int))(s:List Abs.zac)(d:Int)(j:Nat):List (Abs.zac×Int):=l++((s.drop j).map fun g=>(g,d+1)).reverse
theorem zf5 {l:List (Abs.zac×Int)}{s:List Abs.zac}{d:Int}:zch l s d s.length=l:=by simp[zch]
theorem ziO {l:List (Abs.zac×Int)}{s:List Abs.zac}{d:Int}{j:Nat}:(zch l s d j).length=l.length+(s.length-j):=by simp[zch]
theorem zmW {l:List (Abs.zac×Int)}{s:List Abs.zac}{d:Int}{j:Nat}(h:j<s.length):zch l s d j=zch l s d (j+1)++[(s[j],d+1)]:=by
 unfold zch;rw[List.drop_eq_getElem_cons h,List.map_cons,List.reverse_cons,List.append_assoc]
theorem zpt {l:List (Abs.zac×Int)}{s:List Abs.zac}{d:Int}:(zch l s d 0).reverse=s.map (fun g=>(g,d+1))++l.reverse:=by simp[zch]
theorem zps {l:List (Abs.zac×Int)}{s:List Abs.zac}{d:Int}{j:Nat}{a:Abs.zac×Int}(h:a∈zch l s d j):a∈l∨∃g∈s,a=(g,d+1):=by
 unfold zch at h
 rcases List.mem_append.1 h with h|h
 ·exact .inl h
 ·rw[List.mem_reverse,List.mem_map]at h
  obtain⟨g,hg,rfl⟩:=h
  exact .inr ⟨g,List.mem_of_mem_drop hg,rfl⟩
structure zFM where
 j:Nat
 cells:List D
 g:Nat
 m:Nat
set_option maxHeartbeats 8000000 in
theorem f77:zan Tryd.prog G0 (Q18.add 77 (sp2 (fun(f:Abs.zac) op=>zaL op f) fun _ op=>op=false)):=by
 refine zbr zFt zyv fun f op hop hw _=>?_
 obtain rfl:op=false:=hop
 obtain⟨Q,hQ⟩:∃Q:D→zas→Nat→Prop,Q=(fun d _ _=>D.val d=some (.fz (enc (zaL false f)))):=⟨_,rfl⟩
 rw[←hQ]
 have hres:∀{c i:Int} {H':zas} {n':Nat},zaL false f=⟨c,i⟩→Q (.agg [.fz (.i .i64 c),.fz (.i .i64 i)]) H' n':=fun e=>by
  rw[hQ];show _=some (D.fz (enc (zaL false f)));rw[e];rfl
 have kr:=Kp.mk @hres
 clear hres hQ
 refine zaj (N:=150) hm zyv 77000 (lst [19,148]) zFt Tryd.func77 rfl rfl (by simp) (by kernel_rfl) ?_
 repeat'(first|refine rq fun _=>?_|simp only[go_sem])
 refine zar hm zyv 77000 (lst [19,148]) (ι:={q:Stk // Kp (q.g<q.m∧q.cells.take (q.st.length*5)=zag (q.st.map zoS)∧q.st.length*5≤q.cells.length∧4≤q.m∧q.n≤200∧q.st.length≤1+2*q.n∧(∀a∈q.st,(enc a.1).Wf∧0≤a.2∧a.2≤41)∧zhS false q.st.reverse q.n=zaL false f)})
  ⟨fun q=>⟨frL [(1,.fz (.b false)),(4,.ptr (77004,1) 0),(5,.arr (77148,q.1.g) 5 0 q.1.st.length),(6,.fz (.i .i64 q.1.n))],
   hpL [((77004,1),some ⟨[.fz (.i .i64 0),.fz (.i .i64 0)],true,false⟩),((77148,q.1.g),some ⟨q.1.cells,false,false⟩)],q.1.m⟩,fun q=>201-q.1.n⟩
  ⟨⟨[(f,1)],[.fz (.i .i64 f.kind),.fz (.s f.name.l),.fz (.sl (f.words.map enc)),.fz (.sl (f.subs.map enc)),.fz (.i .i64 1)],3,4,0⟩,⟨by simp only;omega,rfl,Nat.le_refl _,by simp only;omega,by simp only;omega,by simp,by simp only[List.mem_singleton];rintro a rfl;exact⟨hw,by simp,by simp⟩,zrU⟩⟩ (by kernel_rfl) ?_ ?_
 ·refine zaO [((77148,3),(77019,2))] [] [] ?_ ?_ ?_ ?_ ?_<;>simp only[go_sem,zt3,zmd,vL]
 rintro⟨⟨st,cells,g,m,n⟩,kp⟩
 obtain⟨hg,hc,hl,hm4,hn,hlen,hwf,hrest⟩:=kp.out
 try simp only at hm4 hn hlen hwf hrest hg hc hl
 rcases List.eq_nil_or_concat st with rfl|⟨l,⟨x,d⟩,hst⟩
 ·have e:zaL false f=⟨0,0⟩:=by rw[←hrest];rfl
  repeat'(first|refine rq fun _=>?_|simp only[go_sem,List.length_nil,Tryd.f77])
  exact kr.out e
 rw[List.concat_eq_append]at hst
 obtain⟨hcell,hcut⟩:=zwO hst hc hl
 have hl1:st.length=l.length+1:=by rw[hst,List.length_append,List.length_singleton]
 have e1:((st.length:Int)-1).toNat=l.length:=by omega
 have e1b:((st.length:Int)-1-0).toNat=l.length:=by omega
 have hpos:0<(st.length:Int):=by omega
 have hl5:l.length*5+5≤cells.length:=by omega
 have hll:l.length≤2*n:=by omega
 obtain⟨hx1,hx2,hx3⟩:=hwf (x,d) (by rw[hst];simp)
 simp only at hx1 hx2 hx3 hcell
 have hlwf:∀a∈l,(enc a.1).Wf∧0≤a.2∧a.2≤41:=fun a ha=>hwf a (by rw[hst];exact List.mem_append_left _ ha)
 rw[hst,List.reverse_append,List.reverse_singleton,List.singleton_append,zpx]at hrest
 have hbad:∀{c:Int} {H':zas} {n':Nat},zda false x d n=c→c≠0→Q (.agg [.fz (.i .i64 c),.fz (.i .i64 n)]) H' n':=fun h1 h2=>kr.out (by rw[←hrest,if_pos (by rw[h1];exact h2),h1])
 have hwl:x.words.length≤zaZ:=by
  have h:=zbC (by have h:=hx1;rw[zbA]at h;exact h) (FD.sl (x.words.map enc)) (by simp)
  have:=zc1 h
  simpa using this
 have hsl:x.subs.length≤zaZ:=by
  have h:=zbC (by have h:=hx1;rw[zbA]at h;exact h) (FD.sl (x.subs.map enc)) (by simp)
  have:=zc1 h
  simpa using this
 have hsw:∀g∈x.subs,(enc g).Wf:=fun g hg=>zg0 (zbC (by have h:=hx1;rw[zbA]at h;exact h) (FD.sl (x.subs.map enc)) (by simp)) _ (List.mem_map_of_mem hg)
 unfold zaZ at hwl hsl
 have kb:=Kp.mk @hbad
 have kR:=Kp.mk hrest
 have kW:=Kp.mk hlwf
 have kS:=Kp.mk hsw
 have kC:=Kp.mk hcut
 clear hbad hrest hlwf hsw hst hx1 hcut hl1 hlen hwf hc hl hw
 rcases zlz false x with⟨hk,hp⟩|⟨hk,hp⟩|⟨_,hop,_⟩|⟨hk,_,hp⟩|⟨hk,hp⟩|⟨hk,hp⟩|⟨hk,hk3,hk10,hk8,hk9,hp⟩
 rotate_left 2
 ·exact Bool.noConfusion hop
 all_goals repeat'(first|refine zaB.d (fun _=>?_) (fun _=>?_)|refine zaB.i (fun _=>?_) (fun _=>?_)|refine rq fun _=>?_|simp only[go_sem,Nat.zero_add,zu8,zzJ,zzK,zDi,zDj,Tryd.f77, *])
 all_goals try(exfalso;omega)
 all_goals try
  refine kb.out (by first
   |rw[zbZ hp,if_pos (by omega)]
   |rw[zbZ hp,if_neg (by omega),if_pos (by omega)]
   |rw[zbZ hp,if_neg (by omega),if_neg (by omega),if_pos (by omega)]
   |rw[zbZ hp,if_neg (by omega),if_neg (by omega),if_neg (by omega),if_pos ⟨by omega,by first|assumption|simp_all [zae]⟩]
   |rw[zbZ hp,if_neg (by omega),if_neg (by omega),if_neg (by omega),if_neg (by omega),if_pos ⟨by omega,by assumption⟩]) (by decide)
 all_goals
  have hN:zda false x d n=if x.words.all zai=false then 10 else 0:=by
   rw[zbZ hp,if_neg (by omega),if_neg (by omega),if_neg (by omega),if_neg (by first|omega|(rintro⟨_,h⟩;simp_all [zae])),if_neg (by first|omega|(rintro⟨_,h⟩;simp_all))]
  have hs2:x.subs.length≤2:=by
   have h2:za2 false x≤2:=by
    unfold za2 zcn
    rw[if_neg (by simp)]
    repeat'(split<;>try decide)
   omega
  have hw0:((0:Nat):Int)=0:=rfl
  have hw10:((10:Nat):Int)=10:=rfl
  refine zar hm zyv 77000 (lst [19,148]) (ι:=zxU (m+1+1) x.words.length fun i c=>c=if(x.words.take i).all zai=true then 0 else 10)
   ⟨fun q=>⟨frL [(1,.fz (.b false)),(4,.ptr (77004,1) 0),(5,.arr (77148,g) 5 0 l.length),(6,.fz (.i .i64 n)),(7,.ptr (77007,m) 0),(8,.ptr (77008,m+1) 0),
     (13,.fz (.i .i64 q.n)),(114,.fz (.sl (x.words.map enc))),(115,.fz (.i .i64 x.words.length)),(116,.fz (.i .i64 q.j))],
    hpL [((77007,m),some ⟨[.fz (.i .i64 x.kind),.fz (.s x.name.l),.fz (.sl (x.words.map enc)),.fz (.sl (x.subs.map enc)),.fz (.i .i64 d)],true,false⟩),
     ((77008,m+1),some ⟨[.fz (.i .i64 x.kind),.fz (.s x.name.l),.fz (.sl (x.words.map enc)),.fz (.sl (x.subs.map enc))],true,false⟩),
     ((77004,1),some ⟨[.fz (.i .i64 0),.fz (.i .i64 0)],true,false⟩),((77148,g),some ⟨cells,false,false⟩)],q.m⟩,fun q=>x.words.length-q.j⟩
   ⟨0,0,m+1+1,by omega,by omega,by simp⟩ (by kernel_rfl) ?_ ?_
  ·refine zah ?_ ?_ ?_<;>simp only[go_sem, *]
  rintro⟨i,c,m2,hi,hm2,hc⟩
  try simp only at hi hm2 hc
  rcases Nat.lt_or_ge i x.words.length with h1|h1
  ·cases hnm:zai x.words[i]with
   |false=>
    repeat'(first|refine rq fun _=>?_|simp only[go_sem,h1,hnm,zae,zaa,Tryd.f77])
    refine⟨⟨i+1,10,m2,by omega,by omega,by rw[zdQ h1,hnm,Bool.and_false];rfl⟩,by simp only;omega,?_⟩
    refine zah ?_ ?_ ?_<;>simp only[go_sem,hw10]
   |true=>
    repeat'(first|refine rq fun _=>?_|simp only[go_sem,h1,hnm,zae,zaa,Tryd.f77])
    refine⟨⟨i+1,c,m2,by omega,by omega,by rw[zdQ h1,hnm,Bool.and_true];exact hc⟩,by simp only;omega,?_⟩
    refine zah ?_ ?_ ?_<;>simp only[go_sem]
  have h1':¬i<x.words.length:=by omega
  rw[List.take_of_length_le h1]at hc
  cases hall:x.words.all zai with
  |false=>
   rw[hall]at hN hc
   rw[if_pos rfl]at hN
   rw[if_neg (by simp)]at hc
   subst hc
   repeat'(first|refine rq fun _=>?_|simp only[go_sem,h1',hw10,Tryd.f77])
   exact kb.out hN (by decide)
  |true=>
   rw[hall]at hN hc
   rw[if_neg (by simp)]at hN
   rw[if_pos rfl]at hc
   subst hc
   have hrest:=kR.out
   rw[if_neg (by rw[hN];simp)]at hrest
   repeat'(first|refine rq fun _=>?_|simp only[go_sem,h1',hw0,Tryd.f77])
   refine zar hm zyv 77000 (lst [19,148]) (ι:={q:zFM // q.j≤x.subs.length∧q.g<q.m∧m+1<q.m∧q.cells.take ((zch l x.subs d q.j).length*5)=zag ((zch l x.subs d q.j).map zoS)∧(zch l x.subs d q.j).length*5≤q.cells.length})
    ⟨fun q=>⟨frL [(1,.fz (.b false)),(4,.ptr (77004,1) 0),(5,.arr (77148,q.1.g) 5 0 (zch l x.subs d q.1.j).length),(6,.fz (.i .i64 n)),(7,.ptr (77007,m) 0),(8,.ptr (77008,m+1) 0),(16,.fz (.i .i64 ((q.1.j:Int)-1)))],
     hpL [((77007,m),some ⟨[.fz (.i .i64 x.kind),.fz (.s x.name.l),.fz (.sl (x.words.map enc)),.fz (.sl (x.subs.map enc)),.fz (.i .i64 d)],true,false⟩),
      ((77008,m+1),some ⟨[.fz (.i .i64 x.kind),.fz (.s x.name.l),.fz (.sl (x.words.map enc)),.fz (.sl (x.subs.map enc))],true,false⟩),
      ((77004,1),some ⟨[.fz (.i .i64 0),.fz (.i .i64 0)],true,false⟩),((77148,q.1.g),some ⟨q.1.cells,false,false⟩)],q.1.m⟩,fun q=>q.1.j⟩
    ⟨⟨x.subs.length,cells,g,m2⟩,Nat.le_refl _,by simp only;omega,by simp only;omega,by simp only;rw[zf5];exact kC.out,by simp only;rw[zf5];omega⟩ (by kernel_rfl) ?_ ?_
   ·refine zah ?_ ?_ ?_<;>simp only[go_sem,zf5]
   rintro⟨⟨j,cells2,g2,m3⟩,hj,hg2,hm3,hc2,hl2⟩
   try simp only at hj hg2 hm3 hc2 hl2
   rcases j with _|j
   ·repeat'(first|refine rq fun _=>?_|simp only[go_sem,Tryd.f77,hw0,Int.zero_sub,Int.reduceNeg,Int.reduceSub])
    refine⟨⟨⟨zch l x.subs d 0,cells2,g2,m3,n+1⟩,⟨hg2,hc2,hl2,by simp only;omega,by simp only;omega,by simp only;rw[ziO];omega,fun a ha=>?_,?_⟩⟩,by simp only;omega,?_⟩
    ·rcases zps ha with h|⟨h,h2,rfl⟩
     ·exact kW.out a h
     ·exact⟨kS.out _ h2,by simp only;omega,by simp only;omega⟩
    ·simp only;rw[zpt];exact hrest
    ·refine zah ?_ ?_ ?_<;>simp only[go_sem]
   ·have hps:=zmW (l:=l) (d:=d) (show j<x.subs.length by omega)
    have e2:((j:Int)+1-1)=(j:Int):=by omega
    have hj2:j<x.subs.length:=by omega
    have hpl:=ziO (l:=l) (s:=x.subs) (d:=d) (j:=j+1)
    repeat'(first|refine rq fun _=>?_|refine zaH.i ⟨by omega,zbf (by omega) (by decide)⟩ fun _=>?_|simp only[go_sem,e2,hj2,zaa,Nat.zero_add,List.drop_zero,hc2,Tryd.f77])
    refine⟨⟨⟨j,zag ((zch l x.subs d (j+1)).map zoS)++zag [zoS (x.subs[j],d+1)],m3,m3+1⟩,by simp only;omega,by simp only;omega,by simp only;omega,?_,?_⟩,by simp only;omega,?_⟩
    ·simp only
     rw[hps,List.map_append,ziB,List.length_append,List.length_singleton,List.take_of_length_le]
     ·rfl
     ·rw[List.length_append,zf2,show(zag [zoS (x.subs[j],d+1)]).length=5 from rfl];omega
    ·simp only
     rw[hps,List.length_append,List.length_singleton,List.length_append,zf2,show(zag [zoS (x.subs[j],d+1)]).length=5 from rfl];omega
    ·have hps2:(zch l x.subs d j).length=(zch l x.subs d (j+1)).length+1:=by rw[hps];simp
     refine zah ?_ ?_ ?_<;>simp only[go_sem,hps2,zoS]
def Q19:Tbl:=Q18.add 77 (sp2 (fun(f:Abs.zac) op=>zaL op f) fun _ op=>op=false)
attribute [go_sem] Q19
theorem zDI:zan Tryd.prog G0 Q19:=f77
def Q20:Tbl:=Q19.add 69 (sp1 (fun(f:Abs.zac)=>zaL false f) fun _=>True)
attribute [go_sem] Q20
theorem zvX:zan Tryd.prog G0 Q20:=by
 refine zbY zFo zDI fun f _ hf=>?_
 refine zaj (N:=5) hm zDI 69000 (lst []) zFo Tryd.func69 rfl rfl (by simp) (by kernel_rfl) ?_
 repeat'(first|refine rq fun _=>?_|simp only[go_sem,Tryd.f69])
end Go.Proofs.YtalbdmcklgglbaaDoor
namespace Go.Proofs.YtalbdmcklgglbaaDoor
open Go Go.Abs Go.Proofs
def GA:Nat→List FD:=fun g=>if g=0 then[.i .i64 0,.i .i64 0]else[]
def R1:Tbl:=Q20
attribute [go_sem] R1
theorem hR1:zan Tryd.prog GA R1:=zil zvX
end Go.Proofs.YtalbdmcklgglbaaDoor
