/- several texts of this proof in one; no conditions -/
import Derived.Test.YtalbdmcklgglbaaDoorAT
import Derived.Test.YtalbdmcklgglbaaDoorY19
set_option maxRecDepth 100000
set_option maxHeartbeats 1000000
set_option linter.unusedSimpArgs false
namespace Go.Proofs.YtalbdmcklgglbaaDoor
open Go Go.Abs Go.Proofs
def HR (s:RS)(g:Nat):List (Abs.Id×Option O):=
  [((5003,1),some ⟨[.fz (.i .i64 0),.fz (.i .i64 0)],true,false⟩),((5005,3),some ⟨[.ow (13033,g) 2 (s.out.map enc)],true,false⟩),((5006,4),some ⟨[.fz (.i .i64 s.n)],true,false⟩),
   ((5007,5),some ⟨[.fn 13 [.ptr (5006,4) 0,.ptr (5005,3) 0,.ptr (5007,5) 0]],true,false⟩),((13033,g),some tok)]
def zuo (m:Nat)(r:Bool×RS)(d':D)(H':zas)(n':Nat):Prop:=d'= .fz (.b r.1)∧m≤n'∧∃g',g'<n'∧zfW H' (HR r.2 g')
theorem zld {d:Nat}(ih:∀x s,s.n≤20000→s.out.length≤200→(zcF d x s).1=true→(zcF d x s).2.n≤20000∧(zcF d x s).2.out.length≤200):
  ∀(l:List Abs.Box) (s:RS),s.n≤20000→s.out.length≤200→(goR (zcF d) l s).1=true→(goR (zcF d) l s).2.n≤20000∧(goR (zcF d) l s).2.out.length≤200
 |[],s,h1,h2,_=>by rw[goR];exact⟨h1,h2⟩
 |x::l,s,h1,h2,h=>by
  rw[goR]at h ⊢
  by_cases hr:(zcF d x s).1=true
  ·rw[if_pos hr]at h ⊢
   obtain⟨a,b⟩:=ih x s h1 h2 hr
   exact zld ih l _ a b h
  ·rw[if_neg hr]at h;cases h
theorem zhR:∀(d:Nat) (x:Abs.Box) (s:RS),s.n≤20000→s.out.length≤200→(zcF d x s).1=true→(zcF d x s).2.n≤20000∧(zcF d x s).2.out.length≤200
 |0,_,_,_,_,h=>by rw[zcF]at h;cases h
 |d+1,x,s,h1,h2,h=>by
  rw[zcF]at h ⊢
  by_cases hl:20000<s.n+1
  ·rw[if_pos hl]at h;cases h
  rw[if_neg hl]at h ⊢
  cases hk:zej x with
  |none=>
   rw[hk]at h
   exact⟨by simp only;omega,of_decide_eq_true h⟩
  |some l=>
   rw[hk]at h
   exact zld (fun x s a b c=>zhR d x s a b c) l ⟨s.n+1,s.out⟩ (by simp only;omega) h2 h
structure zBf (F:RS→Prop)(n n0:Nat)(G:Nat→RS→Prop) where
 i:Nat
 s:RS
 g:Nat
 m:Nat
 hi:i≤n
 hg:g<m
 hm:n0≤m
 hF:F s
 hG:G i s
def zvc:Tv:=(.q 0 (.q 1 (.q 2 (.q 3 (.br [(4,(.br [(5,.leaf)]))])))))
def zsl:Tv:=(.q 0 (.q 1 (.q 2 (.q 3 (.q 4 (.q 5 (.q 6 (.q 7 (.q 8 (.q 9 (.q 10 (.q 11 (.q 12 (.q 13 (.q 14 (.q 15 (.q 16 (.q 17 (.q 18 (.br [(19,(.br [(20,.leaf)]))]))))))))))))))))))))
set_option maxHeartbeats 16000000 in
theorem f13:∀(d:Nat) (b:Abs.Box) (s:RS) (g m:Nat),(zcy b).code=0→ze9 b<d→s.n≤20000→s.out.length≤200→g<m→6≤m→
  zav Tryd.prog G0 13 [.agg [.fz (.sl (b.refs.map enc)),.fz (.sl (b.conds.map enc))],.ptr (5006,4) 0,.ptr (5005,3) 0,.ptr (5007,5) 0] (hpL (HR s g)) m (zuo m (zcF d b s)):=by
 intro d
 induction d with
 |zero=>intro b s g m _ h;omega
 |succ d ih=>
  intro b s g m hb ho hn hl hg hm6
  obtain⟨Q,hQ⟩:∃Q:D→zas→Nat→Prop,Q=zuo m (zcF (d+1) b s):=⟨_,rfl⟩
  rw[←hQ]
  have hout:∀r:Bool×RS,zcF (d+1) b s=r→∀t d' n' g' H',r.1=t→d'= .fz (.b t)→m≤n'→g'<n'→zfW H' (HR r.2 g')→Q d' H' n':=fun r hr t d' n' g' H' h1 h2 h3 h4 h5=>by
   rw[hQ,hr];exact⟨by rw[h1];exact h2,h3,g',h4,h5⟩
  have hpre:okS b noB:=⟨⟨1,(VB.of hb).loc⟩,by have:=(zhb hb).2;rw[zcf,zce];simp only[List.length_nil];omega⟩
  have hfit:b.fit=true:=zs1 hb
  have hnb:Box.mk [] []=noB:=rfl
  have hd0:dec (α:=List Str) (.sl [])=[]:=rfl
  have hd1:dec (α:=List Abs.zal) (.sl [])=[]:=rfl
  have kq:=Kp.mk hout
  have ki:=Kp.mk ih
  clear hout hQ ih
  obtain⟨w,hw⟩:∃w,s.n=w:=⟨_,rfl⟩
  obtain⟨U,hU⟩:∃U,s.out=U:=⟨_,rfl⟩
  rw[hw]at hn
  rw[hU]at hl
  by_cases hlim:20000<w+1
  ·have hr:zcF (d+1) b s=(false,⟨w+1,U⟩):=by rw[zcF,hw,hU,if_pos hlim]
   have hgt:((w:Int)+1>20000)=True:=eq_true (by omega)
   have hgt2:((20000:Int)<(w:Int)+1)=True:=eq_true (by omega)
   refine zaj (N:=68) hm hV7 13000 (lsw [33] [1000007,1000012]) zAV Tryd.func13 rfl rfl (by simp) (by kernel_rfl) ?_
   repeat'(first|refine And.intro ?_ ?_|exact True.intro|refine rq fun _=>?_|refine rf fun _=>?_|simp only[go_sem,HR,hw,hU,hgt,hgt2,zad,zab,zae,zaf,zaa,Tryd.f13])
   all_goals exact kq.out _ hr _ _ _ g _ rfl rfl (by omega) (by omega) (by simp only[go_sem,HR,Int.natCast_add])
  have hgt:((w:Int)+1>20000)=False:=eq_false (by omega)
  have hgt2:((20000:Int)<(w:Int)+1)=False:=eq_false (by omega)
  cases hs:zfa b noB with
  |none=>
   have hk:zej b=none:=by unfold zej;rw[hs];rfl
   have hr:zcF (d+1) b s=(decide ((zdq U b).length≤200),⟨w+1,zdq U b⟩):=by rw[zcF,hw,hU,if_neg hlim,hk]
   have hsT:=zhV hs
   have hmem:=zvr U b
   by_cases hbm:b∈U
   ·have ha:zdq U b=U:=by unfold zdq;rw[if_pos hbm]
    rw[ha]at hr
    have hany:(U.any fun c=>decide (c=b))=true:=by rw[hmem];exact decide_eq_true hbm
    have hle:((U.length:Int)≤200)=True:=eq_true (by omega)
    refine zaj (N:=68) hm hV7 13000 (lsw [33] [1000007,1000012]) zAV Tryd.func13 rfl rfl (by simp) (by kernel_rfl) ?_
    repeat'(first|refine zaH.i ⟨rfl,hpre⟩ fun _=>?_|refine zaD.i (f15 (l:=U) (p:=fun c=>decide (c=b)) (by omega) (fun c _ n1 R2 h1 h2=>f16 (b:=b) (by simp only;omega) (by simp only[go_sem]) h2) fun n' hn'=>?_)|refine And.intro ?_ ?_|exact True.intro|refine rq fun _=>?_|refine rf fun _=>?_|simp only[go_sem,HR,hw,hU,hgt,hgt2,hd0,hd1,hnb,hsT,hany,hle,zad,zab,zae,zaf,zaa,Tryd.f13])
    all_goals exact kq.out _ hr _ _ _ g _ (decide_eq_true hl) rfl (by omega) (by omega) (by simp only[go_sem,HR,Int.natCast_add])
   ·have ha:zdq U b=U++[b]:=by unfold zdq;rw[if_neg hbm]
    rw[ha,List.length_append,List.length_singleton]at hr
    have hany:(U.any fun c=>decide (c=b))=false:=by rw[hmem];exact decide_eq_false hbm
    refine zaj (N:=68) hm hV7 13000 (lsw [33] [1000007,1000012]) zAV Tryd.func13 rfl rfl (by simp) (by kernel_rfl) ?_
    repeat'(first|refine zaH.i ⟨rfl,hpre⟩ fun _=>?_|refine zaD.i (f15 (l:=U) (p:=fun c=>decide (c=b)) (by omega) (fun c _ n1 R2 h1 h2=>f16 (b:=b) (by simp only;omega) (by simp only[go_sem]) h2) fun n' hn'=>?_)|refine zaH.i hfit fun _=>?_|refine zay (id:=7) hm hV7 13000 (lsw [33] [1000007,1000012]) zvc (by kernel_rfl) (by kernel_rfl) ?_|refine And.intro ?_ ?_|exact True.intro|refine rq fun _=>?_|refine rf fun _=>?_|simp only[go_sem,HR,hw,hU,hgt,hgt2,hd0,hd1,hnb,hsT,hany,zvc,zad,zab,zae,zaf,zaa,Tryd.f13])
    all_goals
     refine kq.out _ hr _ _ _ n' _ rfl ?_ (by omega) (by omega) (by simp only[go_sem,HR,Int.natCast_add,List.map_append])
     try(congr 2;rw[decide_eq_decide];omega)
  |some L=>
   have hk:zej b=some (L.map zde):=by unfold zej;rw[hs];rfl
   have hr:zcF (d+1) b s=goR (zcF d) (L.map zde) ⟨w+1,U⟩:=by rw[zcF,hw,hU,if_neg hlim,hk]
   have hkk:=zjz hb hk
   have hsT:=zfG hs
   obtain⟨A,hA⟩:∃A,L.map Prod.fst=A:=⟨_,rfl⟩
   obtain⟨B,hB⟩:∃B,L.map Prod.snd=B:=⟨_,rfl⟩
   rw[hA,hB]at hsT
   have hAl:A.length=L.length:=by rw[←hA,List.length_map]
   have hBl:B.length=L.length:=by rw[←hB,List.length_map]
   have hLl:=znZ _ b noB L (Nat.le_refl _) hpre hs
   have hAg:∀i (h:i<L.length) (h2:i<A.length),A[i]=L[i].1:=fun i h h2=>by simp only[←hA,List.getElem_map]
   have hBg:∀i (h:i<L.length) (h2:i<B.length),B[i]=L[i].2:=fun i h h2=>by simp only[←hB,List.getElem_map]
   have kk:=Kp.mk hkk
   clear hkk
   refine zaj (N:=68) hm hV7 13000 (lsw [33] [1000007,1000012]) zAV Tryd.func13 rfl rfl (by simp) (by kernel_rfl) ?_
   repeat'(first|refine zaH.i ⟨rfl,hpre⟩ fun _=>?_|refine zaD.i (f15 (l:=U) (p:=fun c=>decide (c=b)) (by omega) (fun c _ n1 R2 h1 h2=>f16 (b:=b) (by simp only;omega) (by simp only[go_sem]) h2) fun n' hn'=>?_)|refine And.intro ?_ ?_|exact True.intro|refine rq fun _=>?_|refine rf fun _=>?_|simp only[go_sem,HR,hw,hU,hgt,hgt2,hd0,hd1,hnb,hsT,zad,zab,zae,zaf,zaa,Tryd.f13])
   refine zar hm hV7 13000 (lsw [33] [1000007,1000012]) (ι:=zBf (fun t=>t.n≤20000∧t.out.length≤200) L.length m fun i t=>zcF (d+1) b s=goR (zcF d) ((L.map zde).drop i) t)
    ⟨fun q=>⟨frL [(1,.ptr (5006,4) 0),(2,.ptr (5005,3) 0),(3,.ptr (5007,5) 0),(7,.fz (.sl (B.map enc))),(37,.fz (.sl (A.map enc))),(38,.fz (.i .i64 L.length)),(39,.fz (.i .i64 q.i))],hpL (HR q.s q.g),q.m⟩,fun q=>L.length-q.i⟩
    ⟨0,⟨w+1,U⟩,g,m+1,by omega,by omega,by omega,⟨by simp only;omega,hl⟩,hr⟩ (by kernel_rfl) ?_ ?_
   ·refine zah ?_ ?_ ?_<;>(try simp only[go_sem,HR,hAl,Int.natCast_add])
    all_goals first|done|rfl|omega
   rintro⟨i,t,g2,m2,hi,hg2,hm2,⟨ht1,ht2⟩,hG⟩
   try simp only at hi hg2 hm2 ht1 ht2 hG
   rcases Nat.lt_or_ge i L.length with h1|h1
   rotate_left
   ·obtain rfl:i=L.length:=by omega
    rw[show(L.map zde).drop L.length=[]from List.drop_of_length_le (by rw[List.length_map];exact Nat.le_refl _),goR]at hG
    repeat'(first|refine And.intro ?_ ?_|exact True.intro|refine rq fun _=>?_|refine rf fun _=>?_|simp only[go_sem,HR,Nat.lt_irrefl,zad,zab,zae,zaf,zaa,Tryd.f13])
    all_goals exact kq.out _ hG _ _ _ g2 _ rfl rfl (by omega) (by omega) (by simp only[go_sem,HR])
   have h1a:i<A.length:=by omega
   have h1b:i<B.length:=by omega
   obtain⟨x,hx⟩:∃x,A[i]=x:=⟨_,rfl⟩
   obtain⟨y,hy⟩:∃y,B[i]=y:=⟨_,rfl⟩
   have hj:(L.map zde).drop i=zaK x y::(L.map zde).drop (i+1):=by
    rw[List.drop_eq_getElem_cons (by rw[List.length_map];exact h1),List.getElem_map,←hx,←hy,hAg i h1 h1a,hBg i h1 h1b];rfl
   have hjm:zaK x y∈L.map zde:=by
    have:zaK x y∈(L.map zde).drop i:=by rw[hj];simp
    exact List.mem_of_mem_drop this
   obtain⟨hv1,hv2⟩:=kk.out _ hjm
   rw[hj,goR]at hG
   have hvl:=(zhb hv1).2
   rw[Box.tot_eq]at hvl
   have hvl2:=@zal.tots_len (zaK x y).conds
   rw[zaY,List.length_append]at hvl2
   rw[zaX,zaY,List.length_append]at hvl
   have d1:dec (α:=List (List Str)) (.sl [.sl (x.refs.map enc),.sl (y.refs.map enc)])=[x.refs,y.refs]:=dec_enc [x.refs,y.refs]
   have d2:dec (α:=List (List Abs.zal)) (.sl [.sl (x.conds.map enc),.sl (y.conds.map enc)])=[x.conds,y.conds]:=dec_enc [x.conds,y.conds]
   have f1:([x.refs,y.refs]:List (List Str)).flatten=(zaK x y).refs:=by rw[zaX];simp
   have f2:([x.conds,y.conds]:List (List Abs.zal)).flatten=(zaK x y).conds:=by rw[zaY];simp
   have r1:([x.refs,y.refs]:List (List Str)).flatten.length≤1000000∧([x.refs,y.refs]:List (List Str)).length≤1000000:=by rw[f1,zaX,List.length_append];exact⟨by omega,by simp⟩
   have r2:([x.conds,y.conds]:List (List Abs.zal)).flatten.length≤1000000∧([x.conds,y.conds]:List (List Abs.zal)).length≤1000000:=by rw[f2,zaY,List.length_append];exact⟨by omega,by simp⟩
   obtain⟨z,hz⟩:∃z,zaK x y=z:=⟨_,rfl⟩
   rw[hz]at hG hv1 hv2 f1 f2
   have hlA:((i:Int)<(L.length:Int))=True:=eq_true (by omega)
   repeat'(first|refine zaH.i r1 fun _=>?_|refine zaH.i r2 fun _=>?_|refine zay (id:=12) hm hV7 13000 (lsw [33] [1000007,1000012]) zsl (by kernel_rfl) (by kernel_rfl) ?_|refine And.intro ?_ ?_|exact True.intro|refine rq fun _=>?_|refine rf fun _=>?_|simp only[go_sem,HR,h1,h1a,h1b,hlA,hx,hy,d1,d2,zsl,zad,zab,zae,zaf,zaa,Tryd.f13])
   refine zaD.i (zcV (by rfl) (zah ?_ ?_ ?_) (zaP (ki.out z t g2 (m2+2) hv1 (by omega) ht1 ht2 (by omega) (by omega)) ?_))
   ·simp only[go_sem,zg8,f1,f2]
    all_goals first|done|rfl
   ·simp only[go_sem,HR]
    all_goals first|done|rfl
   ·simp only[go_sem]
    all_goals first|done|rfl|omega
   intro d' H' n' hq
   obtain⟨rfl,e1,g4,hg4,e2⟩:=hq
   rw[show H'=hpX [] H' from rfl]
   cases hres:(zcF d z t).1 with
   |false=>
    rw[if_neg (by rw[hres];decide)]at hG
    repeat'(first|refine And.intro ?_ ?_|exact True.intro|refine rq fun _=>?_|refine rf fun _=>?_|simp only[go_sem,HR,hres,zad,zab,zae,zaf,zaa,Tryd.f13])
    all_goals exact kq.out _ hG _ _ _ g4 _ rfl rfl (by omega) (by omega) e2
   |true=>
    rw[if_pos hres]at hG
    have hsm:=zhR d z t ht1 ht2 hres
    obtain⟨t2,ht2e⟩:∃t2,(zcF d z t).2=t2:=⟨_,rfl⟩
    rw[ht2e]at hG hsm e2
    simp only[go_sem,HR]at e2
    obtain⟨b1,b2,b3,b4,b5⟩:=e2
    repeat'(first|refine And.intro ?_ ?_|exact True.intro|refine rq fun _=>?_|refine rf fun _=>?_|simp only[go_sem,HR,hres,zad,zab,zae,zaf,zaa,Tryd.f13])
    all_goals
     refine⟨⟨i+1,t2,g4,n',by omega,by omega,by omega,hsm,hG⟩,by simp only;omega,?_⟩
     refine zah ?_ ?_ ?_<;>(try simp only[go_sem,HR,b1,b2,b3,b4,b5])
     all_goals first|done|rfl|omega
end Go.Proofs.YtalbdmcklgglbaaDoor
namespace Go.Proofs.YtalbdmcklgglbaaDoor
open Go Go.Abs Go.Proofs
def zvb:Tv:=(.q 0 (.q 1 (.br [(2,.leaf)])))
def V8:Tbl:=V7.add 5 (zu7 zgT fun _=>True)
attribute [go_sem] V8
set_option maxHeartbeats 8000000 in
theorem hV8:zan Tryd.prog G0 V8:=by
 refine zr7 ok5 hV7 fun b _ _=>?_
 obtain⟨Q,hQ⟩:∃Q:D→zas→Nat→Prop,Q=(fun d _ _=>D.val d=some (.tup [.fz (enc (zgT b).1),.fz (enc (zgT b).2)])):=⟨_,rfl⟩
 rw[←hQ]
 by_cases hb:(zcy b).code=0
 rotate_left
 ·have e:zgT b=([],zcy b):=by unfold zgT;rw[if_pos hb]
  rw[e]at hQ
  obtain⟨X,hX⟩:∃X,zcy b=X:=⟨_,rfl⟩
  rw[hX]at hb hQ
  have hb':(X.code=0)=False:=eq_false hb
  refine zaj (N:=22) hm hV7 5000 (lst [1000003]) ok5 Tryd.func5 rfl rfl (by simp) (by kernel_rfl) ?_
  repeat'(first|refine zay (id:=3) hm hV7 5000 (lst [1000003]) zvb (by kernel_rfl) (by kernel_rfl) ?_|refine And.intro ?_ ?_|exact True.intro|refine rq fun _=>?_|refine rf fun _=>?_|simp only[go_sem,hX,hb',zvb,zad,zab,zae,zaf,zaa,Tryd.f5])
  all_goals
   rw[hQ]
   simp only[go_sem]
   all_goals first|done|rfl|omega
 have hok:=(zhb hb).1
 refine zaj (N:=22) hm hV7 5000 (lst [1000003]) ok5 Tryd.func5 rfl rfl (by simp) (by kernel_rfl) ?_
 repeat'(first|refine And.intro ?_ ?_|exact True.intro|refine rq fun _=>?_|refine rf fun _=>?_|simp only[go_sem,hok,zad,zab,zae,zaf,zaa,Tryd.f5])
 refine zaD.i (zcV (by rfl) (zaO [] [(13033,6)] [] ?_ ?_ ?_ ?_ ?_) (zaP (f13 (ze9 b+1) b ⟨0,[]⟩ 6 7 hb (by omega) (by simp) (by simp) (by omega) (by omega)) ?_))
 ·simp only[go_sem]
  all_goals first|done|omega
 ·simp only[go_sem]
  all_goals first|done|omega
 ·simp only[go_sem,HR]
  all_goals repeat'(first|refine And.intro ?_ ?_|omega|rfl)
 ·simp only[go_sem,HR]
  all_goals repeat'(first|refine And.intro ?_ ?_|omega|rfl)
 ·simp only[go_sem,zg8]
  all_goals repeat'(first|refine And.intro ?_ ?_|omega|rfl)
 intro d' H' n' hq
 obtain⟨rfl,e1,g4,hg4,e2⟩:=hq
 rw[show H'=hpX [] H' from rfl]
 have hrm:zcF (ze9 b+1) b ⟨0,[]⟩=zrR b:=rfl
 rw[hrm]at e2
 rw[hrm]
 obtain⟨r,hr⟩:∃r,zrR b=r:=⟨_,rfl⟩
 rw[hr]at e2
 simp only[go_sem,HR]at e2
 obtain⟨b1,b2,b3,b4,b5⟩:=e2
 cases ht:r.1 with
 |false=>
  have e:zgT b=([],⟨17, -1⟩):=by unfold zgT;rw[if_neg (by rw[Decidable.not_not];exact hb),hr,if_neg (by rw[ht];decide)]
  rw[e]at hQ
  repeat'(first|refine And.intro ?_ ?_|exact True.intro|refine rq fun _=>?_|refine rf fun _=>?_|simp only[go_sem,hr,ht,hpX,b1,b2,b3,b4,b5,zad,zab,zae,zaf,zaa,Tryd.f5])
  all_goals
   rw[hQ]
   simp only[go_sem]
   all_goals first|done|rfl|omega
 |true=>
  have e:zgT b=(r.2.out,⟨0,0⟩):=by unfold zgT;rw[if_neg (by rw[Decidable.not_not];exact hb),hr,if_pos ht]
  rw[e]at hQ
  repeat'(first|refine And.intro ?_ ?_|exact True.intro|refine rq fun _=>?_|refine rf fun _=>?_|simp only[go_sem,hr,ht,hpX,b1,b2,b3,b4,b5,zad,zab,zae,zaf,zaa,Tryd.f5])
  all_goals
   rw[hQ]
   simp only[go_sem]
   all_goals first|done|rfl|omega
end Go.Proofs.YtalbdmcklgglbaaDoor
