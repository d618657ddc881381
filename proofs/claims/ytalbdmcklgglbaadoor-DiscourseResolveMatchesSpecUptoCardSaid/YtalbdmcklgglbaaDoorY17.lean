/- several texts of this proof in one; no conditions -/
import Derived.Test.YtalbdmcklgglbaaDoorAT
import Derived.Test.YtalbdmcklgglbaaDoorY16
set_option maxRecDepth 100000
set_option maxHeartbeats 1000000
set_option linter.unusedSimpArgs false
namespace Go.Proofs.YtalbdmcklgglbaaDoor
open Go Go.Abs Go.Proofs
def zcE (f:Abs.zac)(fr to:List Str)(i:Nat):List D:=(((f.words.take i).map (zgF fr to)++f.words.drop i).map enc).map .fz
theorem zu2 (f:Abs.zac)(fr to:List Str)(i:Nat):(zcE f fr to i).length=f.words.length:=by
 unfold zcE;simp;omega
theorem zu1 {f:Abs.zac}{fr to:List Str}{i:Nat}(h:i<f.words.length):(zcE f fr to i).getD i .junk= .fz (.s f.words[i].l):=by
 have hl:((f.words.take i).map (zgF fr to)).length=i:=by rw[List.length_map,List.length_take];omega
 unfold zcE
 rw[List.getD_eq_getElem?_getD,List.getElem?_map,List.getElem?_map,List.getElem?_append_right (by omega),hl,Nat.sub_self,List.getElem?_drop,Nat.add_zero,List.getElem?_eq_getElem h]
 rfl
theorem zrC {f:Abs.zac}{fr to:List Str}{i:Nat}(h:i<f.words.length):(zcE f fr to i).set i (.fz (.s (zgF fr to f.words[i]).l))=zcE f fr to (i+1):=by
 have hl:((f.words.take i).map (zgF fr to)).length=i:=by rw[List.length_map,List.length_take];omega
 unfold zcE
 rw[List.drop_eq_getElem_cons h,List.take_succ_eq_append_getElem h,List.map_append,List.map_append,List.map_append,List.map_append,List.map_append,List.map_append]
 rw[List.set_append_right _ _ (by simp;omega)]
 simp only[List.length_map,List.length_take,Nat.min_eq_left (Nat.le_of_lt h),Nat.sub_self,List.map_cons,List.set_cons_zero,List.map_nil,List.map_append,List.append_assoc,List.cons_append,List.nil_append]
 rfl
theorem zww {f:Abs.zac}{fr to:List Str}{i:Nat}(h:i<f.words.length)(e:zgF fr to f.words[i]=f.words[i]):zcE f fr to i=zcE f fr to (i+1):=by
 rw[←zrC h,e]
 apply List.ext_getElem?
 intro j
 rw[List.getElem?_set]
 split
 ·rename_i hj
  subst hj
  have:=zu1 (fr:=fr) (to:=to) h
  have hl:=zu2 f fr to i
  rw[List.getD_eq_getElem?_getD,List.getElem?_eq_getElem (by omega)]at this
  rw[if_pos (by omega),List.getElem?_eq_getElem (by omega)]
  exact congrArg some this
 ·rfl
theorem zwx (f:Abs.zac)(fr to:List Str):zcE f fr to 0=(f.words.map enc).map .fz:=by unfold zcE;simp
theorem zzz (f:Abs.zac)(fr to:List Str):zcE f fr to f.words.length=((ziP f fr to).words.map enc).map .fz:=by unfold zcE ziP;simp[zac.words]
theorem zk9 (l:List Str):zag (l.map enc)=(l.map enc).map .fz:=by
 unfold zag
 rw[List.map_map,List.flatMap_map]
 induction l with
 |nil=>rfl
 |cons x l ih=>rw[List.flatMap_cons,List.map_cons,ih];rfl
def zsk:Tv:=(.q 0 (.q 1 (.q 2 (.q 3 (.q 4 (.q 5 (.q 6 (.q 7 (.br [(8,.leaf)])))))))))
def V4:Tbl:=V3.add 68 (sp3 ziP fun f fr to=>f.subs=[]∧f.words.length≤1000000∧fr.length=to.length)
attribute [go_sem] V4
set_option maxHeartbeats 4000000 in
theorem hV4:zan Tryd.prog G0 V4:=by
 refine zr8 zFn hV3 fun f fr to hp _ _ _=>?_
 obtain⟨hs,hl,hft⟩:=hp
 obtain⟨Q,hQ⟩:∃Q:D→zas→Nat→Prop,Q=(fun d _ _=>D.val d=some (.fz (enc (ziP f fr to)))):=⟨_,rfl⟩
 suffices key:zav Tryd.prog G0 68 [.fz (enc f),.fz (enc fr),.fz (enc to)] (hpL []) 0 (fun d H n=>∃g,g<n∧d= .agg [.fz (.i .i64 f.kind),.fz (.s f.name.l),.arr (47007,g) 1 0 f.words.length,.full []]∧H (47007,g)=some ⟨zcE f fr to f.words.length,false,f.words.isEmpty⟩) by
  refine zbt key ?_
  rintro d H n ⟨g,hg,rfl,ho⟩
  have hfl:zcE f fr to f.words.length=zag ((ziP f fr to).words.map enc):=by rw[zzz,zk9]
  have hvt:f.words.isEmpty=true→(ziP f fr to).words.map enc=[]:=fun h=>by
   have h2:f.words=[]:=List.isEmpty_iff.1 h
   rw[show(ziP f fr to).words=f.words.map (zgF fr to)from rfl,h2];rfl
  have hlen:((ziP f fr to).words.map enc).length=f.words.length:=by rw[show(ziP f fr to).words=f.words.map (zgF fr to)from rfl,List.length_map,List.length_map]
  have hlw:zbi ((ziP f fr to).words.map enc) 1:=fun x hx=>by
   obtain⟨a,_,rfl⟩:=List.mem_map.1 hx
   rfl
  obtain⟨X,hX⟩:∃X,(ziP f fr to).words.map enc=X:=⟨_,rfl⟩
  rw[hX]at hfl hvt hlen hlw
  refine⟨.agg [.fz (.i .i64 f.kind),.fz (.s f.name.l),.fz (.sl X),.full []],hpL [],n,?_,?_⟩
  ·refine zaO [] [] [((47007,g),X)] ?_ ?_ ?_ ?_ ?_<;>simp only[go_sem,ho,hfl,hlen]
   all_goals first|done|exact hvt|exact hlw|(exact⟨hvt,trivial⟩)
  ·rw[←hX]
   simp only[go_sem,ziP]
   all_goals first|done|rfl|(simp only[hs,List.map_nil])
 obtain⟨QQ,hQ2⟩:∃QQ:D→zas→Nat→Prop,QQ=(fun d H n=>∃g,g<n∧d= .agg [.fz (.i .i64 f.kind),.fz (.s f.name.l),.arr (47007,g) 1 0 f.words.length,.full []]∧H (47007,g)=some ⟨zcE f fr to f.words.length,false,f.words.isEmpty⟩):=⟨_,rfl⟩
 rw[←hQ2]
 have kq:=Kp.mk hQ2
 clear hQ2 hQ
 have hpl:=zu2 f fr to
 have kpl:=Kp.mk hpl
 clear hpl
 refine zaj (N:=36) hm hQ3 68000 (lst [1000007]) zFn Tryd.func68 rfl rfl (by simp) (by kernel_rfl) ?_
 repeat'(first|refine zaD.i (zos (cs:=f.words.map enc) (xs:=[enc f]) (by simp only[go_sem,hs,List.map_nil]) (zC2 hs hl) fun g1 n1 hg1 hn1=>?_)|refine And.intro ?_ ?_|exact True.intro|refine rq fun _=>?_|refine rf fun _=>?_|simp only[go_sem,zab,zae,zaa,hs,List.map_nil,Tryd.f68])
 refine zar hm hQ3 68000 (lst [1000007]) (ι:=zcp f.words.length (n1+1) fun _=>True)
  ⟨fun q=>⟨frL [(1,.fz (.sl (fr.map enc))),(2,.fz (.sl (to.map enc))),(6,.ptr (68006,1) 0),(7,.ptr (68007,n1) 0),(14,.arr (47007,g1) 1 0 f.words.length),(15,.fz (.i .i64 f.words.length)),(16,.fz (.i .i64 q.i))],
   hpL [((68006,1),some ⟨[.fz (.i .i64 0),.fz (.s []),.full [],.full []],true,false⟩),((68007,n1),some ⟨[.fz (.i .i64 f.kind),.fz (.s f.name.l),.arr (47007,g1) 1 0 f.words.length,.full []],true,false⟩),((47007,g1),some ⟨zcE f fr to q.i,false,f.words.isEmpty⟩)],q.m⟩,fun q=>f.words.length-q.i⟩
  ⟨0,n1+1,by omega,by omega,trivial⟩ (by kernel_rfl) ?_ ?_
 ·refine zah ?_ ?_ ?_<;>simp only[go_sem,zwx]
  all_goals first|done|omega|rfl
 rintro⟨i,m,hi,hm1,_⟩
 try simp only at hi hm1
 rcases Nat.lt_or_ge i f.words.length with h1|h1
 ·obtain⟨x,hx⟩:∃x,f.words[i]=x:=⟨_,rfl⟩
  have g0:=zu1 (fr:=fr) (to:=to) h1
  have g2:=zrC (fr:=fr) (to:=to) h1
  have g3:=zww (fr:=fr) (to:=to) h1
  have gl:=kpl.out i
  rw[hx]at g0 g2 g3
  have hne:f.words.isEmpty=false:=by
   cases hw:f.words with
   |nil=>rw[hw]at h1;simp at h1
   |cons _ _=>rfl
  by_cases hm2:x∈fr
  ·have hk:=List.idxOf_lt_length_of_mem hm2
   obtain⟨k,hkk⟩:∃k,fr.idxOf x=k:=⟨_,rfl⟩
   rw[hkk]at hk
   have hk2:k<to.length:=by omega
   have e1:idx fr x=(k:Int):=by unfold idx;rw[if_pos hm2,hkk]
   have e2:zgF fr to x=to[k]:=by unfold zgF;rw[if_pos hm2,hkk,List.getD_eq_getElem?_getD,List.getElem?_eq_getElem hk2];rfl
   rw[e2]at g2
   obtain⟨y,hy⟩:∃y,to[k]=y:=⟨_,rfl⟩
   rw[hy]at g2
   have e3:((k:Int)≥0)=True:=eq_true (by omega)
   have e4:(0≤(k:Int))=True:=eq_true (by omega)
   repeat'(first|refine zay (id:=7) hm hQ3 68000 (lst [1000007]) zsk (by kernel_rfl) (by kernel_rfl) ?_|refine And.intro ?_ ?_|exact True.intro|refine rq fun _=>?_|refine rf fun _=>?_|simp only[go_sem,h1,hx,g0,e1,e3,e4,hk2,hy,gl,hne,zsk,Nat.mul_one,Nat.zero_add,zab,zae,zaa,Tryd.f68])
   all_goals
    refine⟨⟨i+1,m,by omega,by omega,trivial⟩,by simp only;omega,?_⟩
    refine zah ?_ ?_ ?_<;>simp only[go_sem,g2,hne]
    all_goals first|done|rfl|omega
  ·have e1:idx fr x= -1:=by unfold idx;rw[if_neg hm2]
   have e2:zgF fr to x=x:=by unfold zgF;rw[if_neg hm2]
   have g4:=g3 e2
   repeat'(first|refine And.intro ?_ ?_|exact True.intro|refine rq fun _=>?_|refine rf fun _=>?_|simp only[go_sem,h1,hx,g0,e1,gl,hne,Nat.mul_one,Nat.zero_add,zab,zae,zaa,Tryd.f68])
   refine⟨⟨i+1,m,by omega,by omega,trivial⟩,by simp only;omega,?_⟩
   refine zah ?_ ?_ ?_<;>simp only[go_sem,g4,hne]
   all_goals first|done|rfl|omega
 ·obtain rfl:i=f.words.length:=by omega
  repeat'(first|refine And.intro ?_ ?_|exact True.intro|refine rq fun _=>?_|refine rf fun _=>?_|simp only[go_sem,Nat.lt_irrefl,Tryd.f68])
  rw[kq.out]
  exact⟨g1,by omega,by simp only[go_sem],by simp only[go_sem]⟩
end Go.Proofs.YtalbdmcklgglbaaDoor
namespace Go.Proofs.YtalbdmcklgglbaaDoor
open Go Go.Abs Go.Proofs
@[go_sem] theorem zaE {c:Chg}:Chg.mk c.conds c.refs c.top=c:=by cases c;rfl
instance:Enc Chg:=⟨fun c=> .agg [.sl (c.conds.map enc),.sl (c.refs.map enc),.sl (c.top.refs.map enc),.sl (c.top.conds.map enc)],
 fun x=>match x with| .agg [.sl a,.sl b,.sl c,.sl d]=>⟨a.map dec,b.map dec,.mk (c.map dec) (d.map dec)⟩|_=>⟨[],[],noB⟩,fun c=>by
  cases c;simp only[zcu,zaf]⟩
@[go_sem] theorem zvG {c:Chg}:enc c= .agg [.sl (c.conds.map enc),.sl (c.refs.map enc),.sl (c.top.refs.map enc),.sl (c.top.conds.map enc)]:=rfl
@[go_sem] theorem zBz {a b c d:List FD}:dec (α:=Chg) (.agg [.sl a,.sl b,.sl c,.sl d])=⟨dec (.sl a),dec (.sl b),.mk (dec (.sl c)) (dec (.sl d))⟩:=rfl
instance:Kc Chg 4:=⟨fun _=>rfl⟩
@[go_sem] theorem zzh {l:List Chg}:zbi (l.map enc) 4=True:=eq_true (zek l)
@[go_sem] theorem zxf {l:List Chg}:(zag (l.map enc)).all zcJ=true:=by
 rw[List.all_eq_true]
 intro d hd
 simp only[zag,List.mem_flatMap,List.mem_map]at hd
 obtain⟨_,⟨a,_,rfl⟩,x,hx,rfl⟩:=hd
 simp only[zvG,FD.cells,List.mem_cons,List.not_mem_nil,or_false]at hx
 rcases hx with rfl|rfl|rfl|rfl<;>rfl
def HW (v p:Abs.Box)(k:Nat)(U:List Chg)(g:Nat):List (Abs.Id×Option O):=
  [((37002,0),some ⟨[.fz (.sl (v.refs.map enc)),.fz (.sl (v.conds.map enc))],true,false⟩),((37005,2),some ⟨[.ow (67081,g) 4 (U.map enc)],true,false⟩),
   ((37008,3),some ⟨[.fz (.sl (p.refs.map enc)),.fz (.sl (p.conds.map enc))],true,false⟩),((37010,k),some ⟨[.fn 67 [.ptr (37008,3) 0,.ptr (37002,0) 0,.ptr (37010,k) 0,.ptr (37005,2) 0]],true,false⟩),((67081,g),some tok)]
def zne (v p:Abs.Box)(k m:Nat)(U:List Chg)(d':D)(H':zas)(n':Nat):Prop:=d'= .tup []∧m≤n'∧∃g',g'<n'∧zfW H' (HW v p k U g')
theorem zm9 (rs:List Str):∀(n:Nat) (to:List Str),(zfM rs n to).length=rs.length^n
 |0,to=>rfl
 |n+1,to=>by
  rw[zfM,List.length_flatMap,List.map_congr_left (fun y _=>zm9 rs n (to++[y])),List.map_const',List.sum_replicate_nat,Nat.pow_succ,Nat.mul_comm]
structure okP (v p:Abs.Box):Prop where
 vr:v.refs.length≤1000
 vc:v.conds.length≤1000000
 pr:p.refs.length≤1000
 pc:p.conds.length≤1000000
 pf:∀x∈p.conds,x.form.subs=[]∧x.form.words.length≤1000000
def zvd:Tv:=(.q 0 (.q 1 (.q 2 (.q 3 (.q 4 (.q 5 (.q 6 (.q 7 (.q 8 (.q 9 (.br [(10,.leaf)])))))))))))
def zss:Tv:=(.q 0 (.q 1 (.q 2 (.q 3 (.q 4 (.q 5 (.q 6 (.q 7 (.q 8 (.br [(9,(.q 10 (.br [(11,.leaf)])))]))))))))))
theorem zon {p to:List Str}{i:Nat}(h:i<p.length)(h2:i<to.length):List.zipWith zbc (p.take (i+1)) to=List.zipWith zbc (p.take i) to++[zbc p[i] to[i]]:=by
 induction p generalizing to i with
 |nil=>simp at h
 |cons x p ih=>
  cases to with
  |nil=>simp at h2
  |cons y to=>
   cases i with
   |zero=>simp
   |succ i=>
    rw[List.take_succ_cons,List.zipWith_cons_cons,ih (by simpa using h) (by simpa using h2)]
    simp
set_option maxHeartbeats 8000000 in
theorem zpJ {v p:Abs.Box}{to:List Str}{U:List Chg}{k g m:Nat}(hp:okP v p)(hl:to.length=p.refs.length)(hU:U.length+1≤1000000)(hg:g<m)(hm5:4≤m)(hk:k<m):
  zav Tryd.prog G0 67 [.fz (.sl (to.map enc)),.ptr (37008,3) 0,.ptr (37002,0) 0,.ptr (37010,k) 0,.ptr (37005,2) 0] (hpL (HW v p k U g)) m (zne v p k m (U++((zfM v.refs 0 to).filter (zcS v p)).map (zib p))):=by
 have he:zfM v.refs 0 to=[to]:=rfl
 rw[he]
 obtain⟨Q,hQ⟩:∃Q:D→zas→Nat→Prop,Q=zne v p k m (U++([to].filter (zcS v p)).map (zib p)):=⟨_,rfl⟩
 rw[←hQ]
 have hfF:zcS v p to=false→∀n',m≤n'→∀g',g'<n'→∀H',zfW H' (HW v p k U g')→Q (.tup []) H' n':=fun h n' hn g' hg' H' hH=>by
  rw[hQ,List.filter_cons_of_neg (by rw[h];decide)]
  exact⟨rfl,hn,g',hg',by simpa using hH⟩
 have hfT:zcS v p to=true→∀n',m≤n'→∀g',g'<n'→∀H',zfW H' (HW v p k (U++[zib p to]) g')→Q (.tup []) H' n':=fun h n' hn g' hg' H' hH=>by
  rw[hQ,List.filter_cons_of_pos h]
  exact⟨rfl,hn,g',hg',by simpa using hH⟩
 obtain⟨a1,a2,a3,a4,a5⟩:=hp
 have k5:=Kp.mk a5
 have kF:=Kp.mk hfF
 have kT:=Kp.mk hfT
 clear hfF hfT hQ a5
 have hlt:((to.length:Int)<(p.refs.length:Int))=False:=eq_false (by omega)
 refine zaj (N:=82) hm hV4 67000 (lsw [75,81] [1000004,1000015]) zFm Tryd.func67 rfl rfl (by simp) (by kernel_rfl) ?_
 repeat'(first|refine And.intro ?_ ?_|exact True.intro|refine rq fun _=>?_|refine rf fun _=>?_|simp only[go_sem,HW,hlt,zad,zab,zae,zaf,zaE,zaa,Tryd.f67])
 refine zar hm hV4 67000 (lsw [75,81] [1000004,1000015]) (ι:=zcp p.conds.length m fun i=>∀x∈p.conds.take i,zd6 v (ziP x.form p.refs to)=true)
  ⟨fun q=>⟨frL [(0,.fz (.sl (to.map enc))),(1,.ptr (37008,3) 0),(2,.ptr (37002,0) 0),(3,.ptr (37010,k) 0),(4,.ptr (37005,2) 0),(39,.fz (.sl (p.conds.map enc))),(40,.fz (.i .i64 p.conds.length)),(41,.fz (.i .i64 q.i))],hpL (HW v p k U g),q.m⟩,fun q=>p.conds.length-q.i⟩
  ⟨0,m,by omega,Nat.le_refl _,by simp⟩ (by kernel_rfl) ?_ ?_
 ·refine zah ?_ ?_ ?_<;>(try simp only[go_sem,HW])
  all_goals first|done|rfl|omega
 rintro⟨i,m2,hi,hm2,hpi⟩
 try simp only at hi hm2 hpi
 rcases Nat.lt_or_ge i p.conds.length with h1|h1
 ·obtain⟨x,hx⟩:∃x,p.conds[i]=x:=⟨_,rfl⟩
  have hxm:x∈p.conds:=by rw[←hx];exact List.getElem_mem h1
  obtain⟨b1,b2⟩:=k5.out x hxm
  have hput:x.form.subs=[]∧x.form.words.length≤1000000∧p.refs.length=to.length:=⟨b1,b2,hl.symm⟩
  cases ht:zd6 v (ziP x.form p.refs to)with
  |false=>
   repeat'(first|refine zaH.i hput fun _=>?_|refine And.intro ?_ ?_|exact True.intro|refine rq fun _=>?_|refine rf fun _=>?_|simp only[go_sem,HW,h1,hx,ht,zad,zab,zae,zaf,zaE,zaa,Tryd.f67])
   all_goals
    refine kF.out ?_ _ (by omega) g (by omega) _ (by simp only[go_sem,HW])
    unfold zcS
    exact List.all_eq_false.2 ⟨x,hxm,by rw[ht];decide⟩
  |true=>
   repeat'(first|refine zaH.i hput fun _=>?_|refine And.intro ?_ ?_|exact True.intro|refine rq fun _=>?_|refine rf fun _=>?_|simp only[go_sem,HW,h1,hx,ht,zad,zab,zae,zaf,zaE,zaa,Tryd.f67])
   all_goals
    refine⟨⟨i+1,m2+1,by omega,by omega,?_⟩,by simp only;omega,?_⟩
    ·rw[List.take_succ_eq_append_getElem h1,hx]
     intro c hc
     rcases List.mem_append.1 hc with h2|h2
     ·exact hpi c h2
     ·rw[List.mem_singleton.1 h2];exact ht
    refine zah ?_ ?_ ?_<;>(try simp only[go_sem,HW])
    all_goals first|done|rfl|omega
 obtain rfl:i=p.conds.length:=by omega
 rw[List.take_length]at hpi
 have hfit:zcS v p to=true:=by unfold zcS;exact List.all_eq_true.2 hpi
 repeat'(first|refine And.intro ?_ ?_|exact True.intro|refine rq fun _=>?_|refine rf fun _=>?_|simp only[go_sem,HW,Nat.lt_irrefl,zad,zab,zae,zaf,zaE,zaa,Tryd.f67])
 refine zar hm hV4 67000 (lsw [75,81] [1000004,1000015]) (ι:=zd5 p.refs.length (m2+2) fun _=>True)
  ⟨fun q=>⟨frL [(0,.fz (.sl (to.map enc))),(1,.ptr (37008,3) 0),(2,.ptr (37002,0) 0),(3,.ptr (37010,k) 0),(4,.ptr (37005,2) 0),(10,.ptr (67010,m2) 0),(59,.fz (.sl (p.refs.map enc))),(60,.fz (.i .i64 p.refs.length)),(61,.fz (.i .i64 q.i))],
   hpL (((67010,m2),some ⟨[.ow (67075,q.g) 7 ((List.zipWith zbc (p.refs.take q.i) to).map enc),.fz (.sl (p.refs.map enc)),.full [],.full []],true,false⟩)::((67075,q.g),some tok)::HW v p k U g),q.m⟩,fun q=>p.refs.length-q.i⟩
  ⟨0,m2+1,m2+2,by omega,by omega,by omega,trivial⟩ (by kernel_rfl) ?_ ?_
 ·refine zaO [] [(67075,m2+1)] [] ?_ ?_ ?_ ?_ ?_<;>(try simp only[go_sem,HW])
  all_goals repeat'(first|refine And.intro ?_ ?_|omega|rfl)
 rintro⟨j,g2,m3,hj,hg2,hm3,_⟩
 try simp only at hj hg2 hm3
 rcases Nat.lt_or_ge j p.refs.length with h2|h2
 ·obtain⟨x,hx⟩:∃x,p.refs[j]=x:=⟨_,rfl⟩
  have h3:j<to.length:=by omega
  obtain⟨y,hy⟩:∃y,to[j]=y:=⟨_,rfl⟩
  have hz:=zon h2 h3
  rw[hx,hy]at hz
  have hzl:(List.zipWith zbc (p.refs.take j) to).length≤j:=by rw[List.length_zipWith,List.length_take];omega
  obtain⟨Z,hZ⟩:∃Z,List.zipWith zbc (p.refs.take j) to=Z:=⟨_,rfl⟩
  rw[hZ]at hz hzl
  repeat'(first|refine zay (id:=15) hm hV4 67000 (lsw [75,81] [1000004,1000015]) zss (by kernel_rfl) (by kernel_rfl) ?_|refine And.intro ?_ ?_|exact True.intro|refine rq fun _=>?_|refine rf fun _=>?_|simp only[go_sem,HW,h2,h3,hx,hy,hZ,zss,zad,zab,zae,zaf,zaE,zaa,Tryd.f67])
  all_goals
   refine⟨⟨j+1,m3,m3+1,by omega,by omega,by omega,trivial⟩,by simp only;omega,?_⟩
   refine zah ?_ ?_ ?_<;>(try simp only[go_sem,HW,hz,List.map_append])
   all_goals first|done|rfl|omega
 obtain rfl:j=p.refs.length:=by omega
 have hz:List.zipWith zbc (p.refs.take p.refs.length) to=(zib p to).conds:=by rw[List.take_length];rfl
 have hr:p.refs=(zib p to).refs:=rfl
 have ht1:(zib p to).top.refs=[]:=rfl
 have ht2:(zib p to).top.conds=[]:=rfl
 repeat'(first|refine And.intro ?_ ?_|exact True.intro|refine rq fun _=>?_|refine rf fun _=>?_|simp only[go_sem,HW,Nat.lt_irrefl,hz,zad,zab,zae,zaf,zaE,zaa,Tryd.f67])
 all_goals
  refine kT.out hfit _ (by omega) m3 (by omega) _ ?_
  simp only[go_sem,HW,List.map_append,ht1,ht2,←hr]
  all_goals first|done|rfl|omega
end Go.Proofs.YtalbdmcklgglbaaDoor
namespace Go.Proofs.YtalbdmcklgglbaaDoor
open Go Go.Abs Go.Proofs
set_option maxHeartbeats 8000000 in
theorem f67 {v p:Abs.Box}{k:Nat}(hp:okP v p):∀(r:Nat) (to:List Str) (U:List Chg) (g m:Nat),to.length+r=p.refs.length→U.length+v.refs.length^r≤1000000→g<m→4≤m→k<m→
  zav Tryd.prog G0 67 [.fz (.sl (to.map enc)),.ptr (37008,3) 0,.ptr (37002,0) 0,.ptr (37010,k) 0,.ptr (37005,2) 0] (hpL (HW v p k U g)) m (zne v p k m (U++((zfM v.refs r to).filter (zcS v p)).map (zib p))):=by
 intro r
 induction r with
 |zero=>intro to U g m hl hU hg hm5 hk;exact zpJ hp (by omega) (by simpa using hU) hg hm5 hk
 |succ r ih=>
  intro to U g m hl hU hg hm5 hk
  obtain⟨Q,hQ⟩:∃Q:D→zas→Nat→Prop,Q=zne v p k m (U++((zfM v.refs (r+1) to).filter (zcS v p)).map (zib p)):=⟨_,rfl⟩
  rw[←hQ]
  obtain⟨R,hR⟩:∃R,v.refs.length=R:=⟨_,rfl⟩
  obtain⟨A,hA⟩:∃A:Nat→List Chg,A=fun j=>U++(((v.refs.take j).flatMap fun y=>zfM v.refs r (to++[y])).filter (zcS v p)).map (zib p):=⟨_,rfl⟩
  have hA0:A 0=U:=by rw[hA];simp
  have hAs:∀j (h:j<v.refs.length),A (j+1)=A j++((zfM v.refs r (to++[v.refs[j]])).filter (zcS v p)).map (zib p):=fun j h=>by
   rw[hA];simp only
   rw[List.take_succ_eq_append_getElem h,List.flatMap_append,List.filter_append,List.map_append,List.append_assoc]
   simp
  have hAe:U++((zfM v.refs (r+1) to).filter (zcS v p)).map (zib p)=A R:=by rw[hA,zfM,←hR];simp only[List.take_length]
  have hAl:∀j,j≤v.refs.length→(A j).length≤U.length+j*v.refs.length^r:=by
   intro j
   induction j with
   |zero=>intro _;rw[hA0];omega
   |succ j ihj=>
    intro hj
    have h1:=ihj (by omega)
    have h2:(((zfM v.refs r (to++[v.refs[j]])).filter (zcS v p)).map (zib p)).length≤v.refs.length^r:=by
     rw[List.length_map]
     exact Nat.le_trans (List.length_filter_le _ _) (by rw[zm9];exact Nat.le_refl _)
    rw[hAs j (by omega),List.length_append,Nat.add_mul,Nat.one_mul]
    omega
  have hAb:∀j,j<v.refs.length→(A j).length+v.refs.length^r≤1000000:=fun j hj=>by
   have h1:=hAl j (by omega)
   have h2:(j+1)*v.refs.length^r≤v.refs.length*v.refs.length^r:=Nat.mul_le_mul_right _ hj
   rw[Nat.add_mul,Nat.one_mul]at h2
   rw[Nat.pow_succ,Nat.mul_comm]at hU
   omega
  rw[hAe]at hQ
  have hnl:((to.length:Int)<(p.refs.length:Int))=True:=eq_true (by omega)
  have hR1:=hp.vr
  have hR2:=hp.pr
  have kI:=Kp.mk ih
  have kA:=Kp.mk hAs
  have kb:=Kp.mk hAb
  have kQ:=Kp.mk hQ
  clear ih hAs hAb hAl hAe hA hQ hU
  refine zaj (N:=82) hm hV4 67000 (lsw [75,81] [1000004,1000015]) zFm Tryd.func67 rfl rfl (by simp) (by kernel_rfl) ?_
  repeat'(first|refine And.intro ?_ ?_|exact True.intro|refine rq fun _=>?_|refine rf fun _=>?_|simp only[go_sem,HW,hnl,hR,zad,zab,zae,zaf,zaE,zaa,Tryd.f67])
  refine zar hm hV4 67000 (lsw [75,81] [1000004,1000015]) (ι:=zd5 R m fun _=>True)
   ⟨fun q=>⟨frL [(0,.fz (.sl (to.map enc))),(1,.ptr (37008,3) 0),(2,.ptr (37002,0) 0),(3,.ptr (37010,k) 0),(4,.ptr (37005,2) 0),(20,.fz (.sl (v.refs.map enc))),(21,.fz (.i .i64 R)),(22,.fz (.i .i64 q.i))],hpL (HW v p k (A q.i) q.g),q.m⟩,fun q=>R-q.i⟩
   ⟨0,g,m,by omega,by omega,by omega,trivial⟩ (by kernel_rfl) ?_ ?_
  ·refine zah ?_ ?_ ?_<;>(try simp only[go_sem,HW,hA0])
   all_goals first|done|rfl|omega
  rintro⟨j,g2,m2,hj,hg2,hm2,_⟩
  try simp only at hj hg2 hm2
  rcases Nat.lt_or_ge j R with h1|h1
  ·have h1':j<v.refs.length:=by omega
   obtain⟨y,hy⟩:∃y,v.refs[j]=y:=⟨_,rfl⟩
   have hst:=kA.out j h1'
   rw[hy]at hst
   have hab:=kb.out j h1'
   have htk:(to.map enc).take to.length=to.map enc:=List.take_of_length_le (by rw[List.length_map];exact Nat.le_refl _)
   have hla:to.map enc++[enc y]=(to++[y]).map enc:=by rw[List.map_append];rfl
   repeat'(first|refine zay (id:=4) hm hV4 67000 (lsw [75,81] [1000004,1000015]) zvd (by kernel_rfl) (by kernel_rfl) ?_|refine And.intro ?_ ?_|exact True.intro|refine rq fun _=>?_|refine rf fun _=>?_|simp only[go_sem,HW,h1,h1',hy,zvd,htk,zad,zab,zae,zaf,zaE,zaa,Tryd.f67])
   refine zaD.i (zcV (by rfl) (zah ?_ ?_ ?_) (zaP (kI.out (to++[y]) (A j) g2 m2 (by simp;omega) hab (by omega) (by omega) (by omega)) ?_))
   ·simp only[go_sem,zg8,List.map_append,htk]
    all_goals first|done|rfl
   ·simp only[go_sem,HW]
   ·simp only[go_sem]
   intro d' H' n' hq
   obtain⟨rfl,e1,g4,hg4,e2⟩:=hq
   rw[←hst]at e2
   simp only[go_sem,HW]at e2
   obtain⟨b1,b2,b3,b4,b5⟩:=e2
   rw[show H'=hpX [] H' from rfl]
   repeat'(first|refine And.intro ?_ ?_|exact True.intro|refine rq fun _=>?_|refine rf fun _=>?_|simp only[go_sem,Tryd.f67])
   refine⟨⟨j+1,g4,n',by omega,by omega,by omega,trivial⟩,by simp only;omega,?_⟩
   refine zah ?_ ?_ ?_<;>(try simp only[go_sem,HW,b1,b2,b3,b4,b5])
   all_goals first|done|rfl|omega
  obtain rfl:j=R:=by omega
  repeat'(first|refine And.intro ?_ ?_|exact True.intro|refine rq fun _=>?_|refine rf fun _=>?_|simp only[go_sem,HW,Nat.lt_irrefl,zad,zab,zae,zaf,zaE,zaa,Tryd.f67])
  all_goals
   rw[kQ.out]
   exact⟨rfl,by omega,g2,by omega,by simp only[go_sem,HW]⟩
end Go.Proofs.YtalbdmcklgglbaaDoor
