/- several texts of this proof in one; no conditions -/
import Derived.Test.YtalbdmcklgglbaaDoorAT
import Derived.Test.YtalbdmcklgglbaaDoorY17
set_option maxRecDepth 100000
set_option maxHeartbeats 1000000
set_option linter.unusedSimpArgs false
namespace Go.Proofs.YtalbdmcklgglbaaDoor
open Go Go.Abs Go.Proofs
theorem zgb {a b:Str}(h:a.l=b.l):a=b:=by cases a;cases b;exact congrArg Str.mk h
structure okW (v:Abs.Box)(c:Abs.zal):Prop where
 vr:v.refs.length≤1000
 vc:v.conds.length≤1000000
 six:c.kind=6→0<c.boxes.length∧okP v (c.boxes.getD 0 noB)∧v.refs.length^(c.boxes.getD 0 noB).refs.length≤1000000
theorem zp8 (p:Abs.Box):(!(p.conds.any fun x=> !decide (x.kind=1)))=zhL p:=by
 unfold zhL
 induction p.conds with
 |nil=>rfl
 |cons x l ih=>rw[List.any_cons,List.all_cons,←ih];cases decide (x.kind=1)<;>simp
def zve:Tv:=(.q 0 (.q 1 (.q 2 (.q 3 (.q 4 (.q 5 (.q 6 (.q 7 (.br [(8,(.br [(9,.leaf)]))])))))))))
def V5:Tbl:=V4.add 37 (sp2 zcj okW)
attribute [go_sem] V5
set_option maxHeartbeats 8000000 in
theorem hV5:zan Tryd.prog G0 V5:=by
 refine zbr zzu hV4 fun v c hp _ _=>?_
 obtain⟨a1,a2,a3⟩:=hp
 obtain⟨Q,hQ⟩:∃Q:D→zas→Nat→Prop,Q=(fun d _ _=>D.val d=some (.fz (enc (zcj v c)))):=⟨_,rfl⟩
 rw[←hQ]
 by_cases h5:c.kind=5
 ·have e:zcj v c=zpr v c:=by unfold zcj;rw[if_pos h5]
  rw[e]at hQ
  obtain⟨U,hU⟩:∃U:Nat→List Chg,U=fun i=>((v.refs.take i).filter (zdV v c)).map (zjM c):=⟨_,rfl⟩
  have hU0:U 0=[]:=by rw[hU];rfl
  have hUt:∀i (h:i<v.refs.length),zdV v c v.refs[i]=true→U (i+1)=U i++[zjM c v.refs[i]]:=fun i h ht=>by
   rw[hU];simp only
   rw[List.take_succ_eq_append_getElem h,List.filter_append,List.map_append,List.filter_cons_of_pos ht];rfl
  have hUf:∀i (h:i<v.refs.length),zdV v c v.refs[i]=false→U (i+1)=U i:=fun i h ht=>by
   rw[hU];simp only
   rw[List.take_succ_eq_append_getElem h,List.filter_append,List.map_append,List.filter_cons_of_neg (by rw[ht];decide)];simp
  have hUe:U v.refs.length=zpr v c:=by rw[hU];simp only[List.take_length];rfl
  have hUl:∀i,(U i).length≤1000:=fun i=>by
   rw[hU];simp only;rw[List.length_map]
   refine Nat.le_trans (List.length_filter_le _ _) ?_
   rw[List.length_take];omega
  rw[←hUe]at hQ
  have kq:=Kp.mk hQ
  have k1:=Kp.mk hUt
  have k2:=Kp.mk hUf
  have k3:=Kp.mk hUl
  clear hUt hUf hUl hUe hU hQ a3 e
  refine zaj (N:=67) hm hV4 37000 (lsw [44] [1000008]) zzu Tryd.func37 rfl rfl (by simp) (by kernel_rfl) ?_
  repeat'(first|refine And.intro ?_ ?_|exact True.intro|refine rq fun _=>?_|refine rf fun _=>?_|simp only[go_sem,h5,zad,zab,zae,zaf,zaE,zaa,Tryd.f37])
  refine zar hm hV4 37000 (lsw [44] [1000008]) (ι:=zd5 v.refs.length 3 fun _=>True)
   ⟨fun q=>⟨frL [(2,.ptr (37002,0) 0),(3,.ptr (37003,1) 0),(5,.ptr (37005,2) 0),(16,.fz (.sl (v.refs.map enc))),(17,.fz (.i .i64 v.refs.length)),(18,.fz (.i .i64 q.i))],
    hpL [((37002,0),some ⟨[.fz (.sl (v.refs.map enc)),.fz (.sl (v.conds.map enc))],true,false⟩),((37003,1),some ⟨[.fz (.i .i64 c.kind),.fz (.s c.name.l),.fz (.i .i64 c.form.kind),.fz (.s c.form.name.l),.fz (.sl (c.form.words.map enc)),.fz (.sl (c.form.subs.map enc)),.fz (.sl (c.boxes.map enc))],true,false⟩),((37005,2),some ⟨[.ow (37044,q.g) 4 ((U q.i).map enc)],true,false⟩),((37044,q.g),some tok)],q.m⟩,fun q=>v.refs.length-q.i⟩
   ⟨0,3,4,by omega,by omega,by omega,trivial⟩ (by kernel_rfl) ?_ ?_
  ·refine zaO [] [(37044,3)] [] ?_ ?_ ?_ ?_ ?_<;>(try simp only[go_sem,hU0,h5,List.map_nil])
   all_goals repeat'(first|refine And.intro ?_ ?_|omega|rfl)
  rintro⟨i,g,m,hi,hg,hm1,_⟩
  try simp only at hi hg hm1
  rcases Nat.lt_or_ge i v.refs.length with h1|h1
  ·obtain⟨y,hy⟩:∃y,v.refs[i]=y:=⟨_,rfl⟩
   have q1:=k1.out i h1
   have q2:=k2.out i h1
   have q3:=k3.out i
   rw[hy]at q1 q2
   have hd1:dec (α:=List Str) (.sl [.s y.l])=[y]:=rfl
   have hd2:dec (α:=List Abs.zac) (.sl [])=[]:=rfl
   by_cases hyc:y=c.name
   ·have hpf:zdV v c y=false:=by unfold zdV;rw[decide_eq_false (fun h=>h hyc)];rfl
    have q4:=q2 hpf
    have hyl:(y.l=c.name.l)=True:=eq_true (by rw[hyc])
    have hyl2:(y.l≠c.name.l)=False:=eq_false (fun h=>h (by rw[hyc]))
    repeat'(first|refine And.intro ?_ ?_|exact True.intro|refine rq fun _=>?_|refine rf fun _=>?_|simp only[go_sem,h1,hy,hyl,hyl2,zad,zab,zae,zaf,zaE,zaa,Tryd.f37])
    all_goals
     refine⟨⟨i+1,g,m,by omega,by omega,by omega,trivial⟩,by simp only;omega,?_⟩
     refine zah ?_ ?_ ?_<;>(try simp only[go_sem,q4,h5])
     all_goals first|done|rfl|omega
   ·have hyl:(y.l=c.name.l)=False:=eq_false fun h=>hyc (zgb h)
    have hyl2:(y.l≠c.name.l)=True:=eq_true fun h=>hyc (zgb h)
    cases ht:zd6 v (.mk 2 c.form.name [y] [])with
    |false=>
     have hpf:zdV v c y=false:=by unfold zdV zhM;rw[ht,Bool.and_false]
     have q4:=q2 hpf
     repeat'(first|refine And.intro ?_ ?_|exact True.intro|refine rq fun _=>?_|refine rf fun _=>?_|simp only[go_sem,h1,hy,hyl,hyl2,ht,hd1,hd2,zad,zab,zae,zaf,zaE,zaa,Tryd.f37])
     all_goals
      refine⟨⟨i+1,g,m,by omega,by omega,by omega,trivial⟩,by simp only;omega,?_⟩
      refine zah ?_ ?_ ?_<;>(try simp only[go_sem,q4,h5])
      all_goals first|done|rfl|omega
    |true=>
     have hpf:zdV v c y=true:=by unfold zdV zhM;rw[ht,Bool.and_true];exact decide_eq_true hyc
     have q4:=q1 hpf
     have hec:enc (zjM c y)= .agg [.sl [enc (zbc c.name y)],.sl [],.sl [],.sl []]:=rfl
     repeat'(first|refine zay (id:=8) hm hV4 37000 (lsw [44] [1000008]) zve (by kernel_rfl) (by kernel_rfl) ?_|refine And.intro ?_ ?_|exact True.intro|refine rq fun _=>?_|refine rf fun _=>?_|simp only[go_sem,h1,hy,hyl,hyl2,ht,hd1,hd2,zve,zad,zab,zae,zaf,zaE,zaa,Tryd.f37])
     all_goals
      refine⟨⟨i+1,m,m+1,by omega,by omega,by omega,trivial⟩,by simp only;omega,?_⟩
      refine zah ?_ ?_ ?_<;>(try simp only[go_sem,q4,h5,List.map_append,hec])
      all_goals first|done|rfl|omega
  ·obtain rfl:i=v.refs.length:=by omega
   repeat'(first|refine And.intro ?_ ?_|exact True.intro|refine rq fun _=>?_|refine rf fun _=>?_|simp only[go_sem,Nat.lt_irrefl,zad,zab,zae,zaf,zaE,zaa,Tryd.f37])
   all_goals
    rw[kq.out]
    simp only[go_sem]
 by_cases h6:c.kind=6
 rotate_left
 ·have e:zcj v c=[]:=by unfold zcj;rw[if_neg h5,if_neg h6]
  rw[e]at hQ
  refine zaj (N:=67) hm hV4 37000 (lsw [44] [1000008]) zzu Tryd.func37 rfl rfl (by simp) (by kernel_rfl) ?_
  repeat'(first|refine And.intro ?_ ?_|exact True.intro|refine rq fun _=>?_|refine rf fun _=>?_|simp only[go_sem,h5,h6,zad,zab,zae,zaf,zaE,zaa,Tryd.f37])
  all_goals
   rw[hQ]
   first|rfl|simp only[go_sem]
 obtain⟨b1,b2,b3⟩:=a3 h6
 have e:zcj v c=zhJ (zdC v (c.boxes.getD 0 noB)) (c.boxes.getD 0 noB):=by unfold zcj;rw[if_neg h5,if_pos h6]
 rw[e]at hQ
 obtain⟨p,hp⟩:∃p,c.boxes[0]=p:=⟨_,rfl⟩
 have hp2:c.boxes.getD 0 noB=p:=by rw[List.getD_eq_getElem?_getD,List.getElem?_eq_getElem b1];exact hp
 rw[hp2]at b2 b3 hQ
 have hpc:=b2.pc
 have hpr:=b2.pr
 have hany:=zp8 p
 have htop:zhJ [] p=[zu9 p]:=rfl
 have het:enc (zu9 p)= .agg [.sl [],.sl [],.sl (p.refs.map enc),.sl (p.conds.map enc)]:=rfl
 cases hpl:zhL p with
 |false=>
  have hbw:zdC v p=[]:=by unfold zdC;rw[hpl];rfl
  rw[hbw,htop]at hQ
  rw[hpl]at hany
  have hany2:(p.conds.any fun x=> !decide (x.kind=1))=true:=by simpa using hany
  refine zaj (N:=67) hm hV4 37000 (lsw [44] [1000008]) zzu Tryd.func37 rfl rfl (by simp) (by kernel_rfl) ?_
  repeat'(first|refine zaD.i (f65 (l:=p.conds) (p:=fun x=> !decide (x.kind=1)) (by omega) (fun c _ n1 R1 h1 h2=>f66 h2) fun n' hn'=>?_)|refine And.intro ?_ ?_|exact True.intro|refine rq fun _=>?_|refine rf fun _=>?_|simp only[go_sem,h5,h6,b1,hp,hany2,zad,zab,zae,zaf,zaE,zaa,Tryd.f37])
  all_goals
   rw[hQ]
   simp only[go_sem,het]
 |true=>
  have hbw:zdC v p=((zfM v.refs p.refs.length []).filter (zcS v p)).map (zib p):=by unfold zdC;rw[hpl];rfl
  rw[hpl]at hany
  have hany2:(p.conds.any fun x=> !decide (x.kind=1))=false:=by simpa using hany
  obtain⟨U,hU⟩:∃U,zdC v p=U:=⟨_,rfl⟩
  rw[hU]at hQ hbw
  have hUe:([]:List Chg)++((zfM v.refs p.refs.length []).filter (zcS v p)).map (zib p)=U:=by rw[hbw];rfl
  refine zaj (N:=67) hm hV4 37000 (lsw [44] [1000008]) zzu Tryd.func37 rfl rfl (by simp) (by kernel_rfl) ?_
  repeat'(first|refine zaD.i (f65 (l:=p.conds) (p:=fun x=> !decide (x.kind=1)) (by omega) (fun c _ n1 R1 h1 h2=>f66 h2) fun n' hn'=>?_)|refine And.intro ?_ ?_|exact True.intro|refine rq fun _=>?_|refine rf fun _=>?_|simp only[go_sem,h5,h6,b1,hp,hany2,zad,zab,zae,zaf,zaE,zaa,Tryd.f37])
  refine zaD.i (zcV (by rfl) (zaO [] [(67081,n'+1)] [] ?_ ?_ ?_ ?_ ?_) (zaP (f67 (k:=n') b2 p.refs.length [] [] (n'+1) (n'+2) (by simp) (by simpa using b3) (by omega) (by omega) (by omega)) ?_))
  ·simp only[go_sem]
   all_goals first|done|omega
  ·simp only[go_sem]
  ·simp only[go_sem,HW]
   all_goals repeat'(first|refine And.intro ?_ ?_|omega|rfl)
  ·simp only[go_sem,HW]
   all_goals repeat'(first|refine And.intro ?_ ?_|omega|rfl)
  ·simp only[go_sem,zg8]
   all_goals repeat'(first|refine And.intro ?_ ?_|omega|rfl)
  intro d' H' n2 hq
  obtain⟨rfl,e1,g4,hg4,e2⟩:=hq
  rw[hUe]at e2
  simp only[go_sem,HW]at e2
  obtain⟨c1,c2,c3,c4,c5⟩:=e2
  rw[show H'=hpX [] H' from rfl]
  by_cases hu0:U=[]
  ·have hot:zhJ U p=[zu9 p]:=by rw[hu0];rfl
   rw[hot]at hQ
   rw[hu0]at c2
   repeat'(first|refine And.intro ?_ ?_|exact True.intro|refine rq fun _=>?_|refine rf fun _=>?_|simp only[go_sem,c1,c2,c3,c4,c5,hpX,List.map_nil,List.length_nil,zad,zab,zae,zaf,zaE,zaa,Tryd.f37])
   all_goals
    rw[hQ]
    simp only[go_sem,het]
  ·have hul:¬U.length=0:=fun h=>hu0 (List.eq_nil_of_length_eq_zero h)
   have hot:zhJ U p=U:=by unfold zhJ;rw[if_neg hul]
   rw[hot]at hQ
   have hul2:((U.length:Int)=0)=False:=eq_false (by omega)
   repeat'(first|refine And.intro ?_ ?_|exact True.intro|refine rq fun _=>?_|refine rf fun _=>?_|simp only[go_sem,c1,c2,c3,c4,c5,hpX,hul2,zad,zab,zae,zaf,zaE,zaa,Tryd.f37])
   all_goals
    rw[hQ]
    simp only[go_sem]
end Go.Proofs.YtalbdmcklgglbaaDoor
namespace Go.Proofs.YtalbdmcklgglbaaDoor
open Go Go.Abs Go.Proofs
theorem zi9 {P:Program}{G:Nat→List FD}{T:Tbl}{N:Nat}{st:St}{q:Exit→St→Prop}(hm:P.follows .mixedOrders=true)(hT:zan P G T)(tag0:Nat)(am:Nat→Bool){c:Code}(hd:zbk am T c=true)(h:@XCK P G T N tag0 am c st ⟨q⟩):@WK P G N c st ⟨q⟩:=by
 unfold XCK at h
 exact WK.i (zkl hm hT c _ _ hd h)
theorem zlI (A:List D):∀(new B:List D) (off:Nat),zcT (A++B) (A.length+off) new=A++zcT B off new
 |[],B,off=>by rw[zhU,zhU]
 |d::new,B,off=>by
  rw[zga,zga,List.set_append_right _ _ (by omega),show A.length+off-A.length=off by omega,Nat.add_assoc,zlI A new]
theorem zlH:∀(new A P B:List D),A.length=new.length→zcT (P++(A++B)) P.length new=P++(new++B)
 |[],A,P,B,h=>by rw[zhU,List.eq_nil_of_length_eq_zero h]
 |d::new,[],P,B,h=>by simp at h
 |d::new,a::A,P,B,h=>by
  rw[zga,List.set_append_right _ _ (Nat.le_refl _),Nat.sub_self,List.cons_append,List.set_cons_zero]
  have:=zlH new A (P++[d]) B (by simpa using h)
  rw[List.length_append,List.length_singleton,List.append_assoc,List.append_assoc]at this
  exact this
theorem zdj {α:Type}[Enc α]{es:Nat}(he:∀a:α,(enc a).cells.length=es)(y:α):∀(l:List α) (k:Nat),k<l.length→zcT (zag (l.map enc)) (k*es) ((enc y).cells.map .fz)=zag ((l.set k y).map enc)
 |[],k,h=>by simp at h
 |x::l,0,_=>by
  have e:∀(z:α),zag ((z::l).map enc)=(enc z).cells.map .fz++zag (l.map enc):=fun z=>by unfold zag;rw[List.map_cons,List.flatMap_cons]
  rw[List.set_cons_zero,e,e,Nat.zero_mul]
  have:=zlH ((enc y).cells.map .fz) ((enc x).cells.map .fz) [] (zag (l.map enc)) (by rw[List.length_map,List.length_map,he,he])
  simpa using this
 |x::l,k+1,h=>by
  have e:∀(m:List α),zag ((x::m).map enc)=(enc x).cells.map .fz++zag (m.map enc):=fun m=>by unfold zag;rw[List.map_cons,List.flatMap_cons]
  rw[List.set_cons_succ,e,e,show(k+1)*es=((enc x).cells.map D.fz).length+k*es by rw[List.length_map,he,Nat.add_mul,Nat.one_mul,Nat.add_comm],zlI,zdj he y l k (by simpa using h)]
theorem zcq (xs:List FD):zag xs=(xs.flatMap FD.cells).map .fz:=by
 unfold zag
 rw[List.map_flatMap]
theorem zcb {α:Type}[Enc α]{es:Nat}(he:∀a:α,(enc a).cells.length=es):∀l:List α,(zag (l.map enc)).length=l.length*es
 |[]=>by simp[zag]
 |x::l=>by
  have e:zag ((x::l).map enc)=(enc x).cells.map .fz++zag (l.map enc):=by unfold zag;rw[List.map_cons,List.flatMap_cons]
  rw[e,List.length_append,List.length_map,he,zcb he l,List.length_cons,Nat.add_mul,Nat.one_mul,Nat.add_comm]
theorem zcW {α:Type}[Enc α]{es:Nat}(he:∀a:α,(enc a).cells.length=es)(h0:0<es)(l:List α):(zag (l.map enc)).isEmpty=l.isEmpty:=by
 have h:=zcb he l
 cases l with
 |nil=>rfl
 |cons x l=>
  have h2:0<(zag ((x::l).map enc)).length:=by rw[h,List.length_cons,Nat.add_mul];omega
  cases hf:zag ((x::l).map enc)with
  |nil=>rw[hf]at h2;simp at h2
  |cons _ _=>rfl
theorem zs6 {l:List Abs.Box}(hl:l.length≤1000000):zav Tryd.prog G0 39 [.fz (.sl (l.map enc))] H0 0 (fun d H n=>∃g,g<n∧d= .arr (39007,g) 2 0 l.length∧H (39007,g)=some ⟨((l.map enc).flatMap FD.cells).map .fz,false,l.isEmpty⟩):=by
 rw[zdo,←zcq]
 obtain⟨Q,hQ⟩:∃Q:D→zas→Nat→Prop,Q=(fun d H n=>(d= .full []∧l=[]∧n=0∧H=hpL [])∨∃g,g<n∧d= .arr (39007,g) 2 0 l.length∧H (39007,g)=some ⟨zag (l.map enc),false,l.isEmpty⟩):=⟨_,rfl⟩
 have key:zav Tryd.prog G0 39 [.fz (.sl (l.map enc))] (hpL []) 0 Q:=by
  refine zaj (N:=8) hm zd1 39000 (lst [7]) zGu Tryd.func39 rfl rfl (by simp) (by kernel_rfl) ?_
  simp only[go_sem]
  refine zpM.i fun b hb=>?_
  cases b
  ·repeat'(first|refine And.intro ?_ ?_|exact True.intro|refine rq fun _=>?_|refine rf fun _=>?_|simp only[go_sem,Tryd.f39])
   rw[hQ]
   exact .inr ⟨0,by omega,by simp only[go_sem],by simp only[go_sem,zcW (es:=2) (fun a:Abs.Box=>Kc.len a) (by decide) l]⟩
  ·have:l=[]:=List.eq_nil_of_length_eq_zero (hb rfl)
   subst this
   repeat'(first|refine And.intro ?_ ?_|exact True.intro|refine rq fun _=>?_|refine rf fun _=>?_|simp only[go_sem,Tryd.f39])
   rw[hQ]
   exact .inl ⟨rfl,rfl,rfl,rfl⟩
 refine zbt key ?_
 rw[hQ]
 rintro d H n (⟨rfl,rfl,rfl,rfl⟩|⟨g,hg,rfl,ho⟩)
 ·refine⟨.arr (39007,0) 2 0 0,hpL [((39007,0),some ⟨[],false,true⟩)],1,?_,0,by omega,rfl,by simp only[go_sem]⟩
  refine zaO [] [(39007,0)] [] ?_ ?_ ?_ ?_ ?_<;>simp only[go_sem]
  all_goals first|done|rfl
 ·exact⟨_,H,n,zb9 ⟨rfl,trivial⟩ (fun _ _ h=>h) (Nat.le_refl _),g,hg,rfl,ho⟩
theorem zs7 {l:List Abs.zal}(hl:l.length≤1000000):zav Tryd.prog G0 40 [.fz (.sl (l.map enc))] H0 0 (fun d H n=>∃g,g<n∧d= .arr (40007,g) 7 0 l.length∧H (40007,g)=some ⟨((l.map enc).flatMap FD.cells).map .fz,false,l.isEmpty⟩):=by
 rw[zdo,←zcq]
 obtain⟨Q,hQ⟩:∃Q:D→zas→Nat→Prop,Q=(fun d H n=>(d= .full []∧l=[]∧n=0∧H=hpL [])∨∃g,g<n∧d= .arr (40007,g) 7 0 l.length∧H (40007,g)=some ⟨zag (l.map enc),false,l.isEmpty⟩):=⟨_,rfl⟩
 have key:zav Tryd.prog G0 40 [.fz (.sl (l.map enc))] (hpL []) 0 Q:=by
  refine zaj (N:=8) hm zd1 40000 (lst [7]) zGv Tryd.func40 rfl rfl (by simp) (by kernel_rfl) ?_
  simp only[go_sem]
  refine zpM.i fun b hb=>?_
  cases b
  ·repeat'(first|refine And.intro ?_ ?_|exact True.intro|refine rq fun _=>?_|refine rf fun _=>?_|simp only[go_sem,Tryd.f40])
   rw[hQ]
   exact .inr ⟨0,by omega,by simp only[go_sem],by simp only[go_sem,zcW (es:=7) (fun a:Abs.zal=>Kc.len a) (by decide) l]⟩
  ·have:l=[]:=List.eq_nil_of_length_eq_zero (hb rfl)
   subst this
   repeat'(first|refine And.intro ?_ ?_|exact True.intro|refine rq fun _=>?_|refine rf fun _=>?_|simp only[go_sem,Tryd.f40])
   rw[hQ]
   exact .inl ⟨rfl,rfl,rfl,rfl⟩
 refine zbt key ?_
 rw[hQ]
 rintro d H n (⟨rfl,rfl,rfl,rfl⟩|⟨g,hg,rfl,ho⟩)
 ·refine⟨.arr (40007,0) 7 0 0,hpL [((40007,0),some ⟨[],false,true⟩)],1,?_,0,by omega,rfl,by simp only[go_sem]⟩
  refine zaO [] [(40007,0)] [] ?_ ?_ ?_ ?_ ?_<;>simp only[go_sem]
  all_goals first|done|rfl
 ·exact⟨_,H,n,zb9 ⟨rfl,trivial⟩ (fun _ _ h=>h) (Nat.le_refl _),g,hg,rfl,ho⟩
section
variable {P:Program} {G:Nat→List FD} {T:Tbl}
def zsM {α β ρ σ τ:Type}[Enc α][Enc β][Enc ρ][Enc σ][Enc τ](f:α→β→ρ×σ×τ)(pre:α→β→Prop):List FD→Option (D×Prop)
 |[x,y]=>some (.tup [.fz (enc (f (dec x) (dec y)).1),.fz (enc (f (dec x) (dec y)).2.1),.fz (enc (f (dec x) (dec y)).2.2)],x=enc (dec (α:=α) x)∧y=enc (dec (α:=β) y)∧pre (dec x) (dec y))
 |_=>none
@[go_sem] theorem zy3 {α β ρ σ τ:Type}[Enc α][Enc β][Enc ρ][Enc σ][Enc τ]{f:α→β→ρ×σ×τ}{pre:α→β→Prop}{x y:FD}:zsM f pre [x,y]=some (.tup [.fz (enc (f (dec x) (dec y)).1),.fz (enc (f (dec x) (dec y)).2.1),.fz (enc (f (dec x) (dec y)).2.2)],x=enc (dec (α:=α) x)∧y=enc (dec (α:=β) y)∧pre (dec x) (dec y)):=rfl
theorem zm1 {α β ρ σ τ:Type}[Enc α][Enc β][Enc ρ][Enc σ][Enc τ]{f:FuncId}{g:α→β→ρ×σ×τ}{pre:α→β→Prop}(hc:zam P f)(hT:zan P G T)
  (h:∀a b,pre a b→(enc a).Wf→(enc b).Wf→zav P G f [.fz (enc a),.fz (enc b)] (hpL []) 0 (fun d _ _=>D.val d=some (.tup [.fz (enc (g a b).1),.fz (enc (g a b).2.1),.fz (enc (g a b).2.2)]))):zan P G (T.add f (zsM g pre)):=by
 refine zcB hT fun xs r c hx hcc=>?_
 unfold zsM at hx
 split at hx
 ·rename_i x y
  simp only[Option.some.injEq,Prod.mk.injEq]at hx
  obtain⟨rfl,rfl⟩:=hx
  obtain⟨e,e2,hp⟩:=hcc
  refine zdP hc fun hw=>?_
  rw[zdo]
  have:=h (dec x) (dec y) hp (by rw[←e];exact hw x (by simp)) (by rw[←e2];exact hw y (by simp))
  rw[←e,←e2]at this
  exact this
 ·cases hx
theorem zn6 {α β ρ σ τ:Type}[Enc α][Enc β][Enc ρ][Enc σ][Enc τ]{f:FuncId}{g:α→β→ρ×σ×τ}{pre:α→β→Prop}(m:α→Nat)(hc:zam P f)(hT:zan P G T)
  (h:∀n,zan P G (T.add f (zsM g fun a b=>m a<n∧pre a b))→∀a b,m a=n→pre a b→(enc a).Wf→(enc b).Wf→zav P G f [.fz (enc a),.fz (enc b)] (hpL []) 0 (fun d _ _=>D.val d=some (.tup [.fz (enc (g a b).1),.fz (enc (g a b).2.1),.fz (enc (g a b).2.2)]))):zan P G (T.add f (zsM g pre)):=by
 have key:∀n,zan P G (T.add f (zsM g fun a b=>m a<n∧pre a b)):=by
  intro n
  induction n with
  |zero=>exact zm1 hc hT fun a b ha=>by omega
  |succ n ih=>
   refine zm1 hc hT fun a b ha hw hw2=>?_
   rcases Nat.lt_or_ge (m a) n with h1|h1
   ·have h2:=ih f (zsM g fun a b=>m a<n∧pre a b) [enc a,enc b] _ _ (by simp[Tbl.add]) (zy3) ⟨by rw[dec_enc],by rw[dec_enc],by rw[dec_enc,dec_enc];exact⟨h1,ha.2⟩⟩
    rw[dec_enc,dec_enc,zdo]at h2
    exact h2
   ·exact h n ih a b (by omega) ha.2 hw hw2
 exact zm1 hc hT fun a b ha hw hw2=>h (m a) (key _) a b rfl ha hw hw2
end
end Go.Proofs.YtalbdmcklgglbaaDoor
