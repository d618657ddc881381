/- several texts of this proof in one; no conditions -/
import Derived.Test.YtalbdmcklgglbaaDoorAT
import Derived.Test.YtalbdmcklgglbaaDoorY24
import Derived.Test.YtalbdmcklgglbaaDoorY3
import Derived.Test.YtalbdmcklgglbaaDoorY1
set_option maxRecDepth 100000
set_option maxHeartbeats 1000000
set_option linter.unusedSimpArgs false
namespace Go.Proofs.YtalbdmcklgglbaaDoor
open Go Go.Abs Go.Proofs
theorem zt8 {b:Abs.Box}{path:List Int}{A:Nat}(hb:(zcy b).code=0)(hp:Pth b path A):(ze6 b path A).length≤1000000:=by
 obtain⟨l,e,c,h⟩:=zrx hb hp
 rw[h.set,List.length_map]
 unfold zcj
 split
 ·unfold zpr
  rw[List.length_map]
  exact Nat.le_trans (List.length_filter_le _ _) (by have:=h.w.vr;omega)
 split
 ·rename_i h6
  obtain⟨_,h7,h8⟩:=h.w.six h6
  unfold zhJ
  split
  ·simp
  ·unfold zdC
   split
   ·rw[List.length_map]
    refine Nat.le_trans (List.length_filter_le _ _) ?_
    rw[zeO,List.length_map,List.length_range]
    exact h8
   ·simp
 ·simp
def zuH (b:Abs.Box):List Abs.Box×Bool:=((zyj b).2,(zyj b).1)
def btL (l:List Abs.Box):List Str:=l.map btS
theorem zs2 (l:List Abs.Box)(x:Abs.Box):btL (l++[x])=btL l++[btS x]:=by unfold btL;rw[List.map_append];rfl
theorem zvv {l:List Abs.Box}{x:Abs.Box}(hl:∀y∈l,zmb y)(hx:zmb x):btS x∈btL l↔x∈l:=by
 unfold btL
 rw[List.mem_map]
 constructor
 ·rintro⟨y,h1,h2⟩
  rw[←zvw (hl y h1) hx h2];exact h1
 ·exact fun h=>⟨x,h,rfl⟩
structure zBe (N n0:Nat) where
 q:Nat
 J:List Abs.Box
 a:Nat
 m:Nat
 hq:q≤N
 ha:a<m
 hm:n0≤m
structure zBg (M:Bool×List Abs.Box) where
 T:List Abs.Box
 J:List Abs.Box
 out:List Abs.Box
 n:Nat
 a:Nat
 g:Nat
 h:Nat
 m:Nat
 hn:n≤20000
 ha:a<m
 hg:g<m
 hh:h<m
 hT:∀x∈T,(zcy x).code=0
 ho:∀x∈out,zmb x
 hol:out.length≤200
 htl:T.length≤1+n*1000000
 hd:zkU T n out=M
def zbz (T J:List Abs.Box):List D:=zag ((T.reverse++J).map enc)
theorem zBG (b:Abs.Box):zbz [b] []=[.fz (.sl (b.refs.map enc)),.fz (.sl (b.conds.map enc))]:=by
 unfold zbz
 rw[List.reverse_singleton,List.append_nil,List.map_singleton,zaQ];rfl
theorem zfi (T J:List Abs.Box):(zbz T J).length=(T.length+J.length)*2:=by
 unfold zbz
 rw[zcb (es:=2) (fun a:Abs.Box=>Kc.len a),List.length_append,List.length_reverse]
theorem zeA (x:Abs.Box)(T J:List Abs.Box):zbz (x::T) J=zbz T (x::J):=by
 unfold zbz
 rw[List.reverse_cons,List.append_assoc,List.singleton_append]
theorem zoA (T J:List Abs.Box):(zbz T J).take (T.length*2)=zbz T []:=by
 have h:zbz T J=zbz T []++zag (J.map enc):=by
  unfold zbz zag
  rw[List.map_append,List.flatMap_append,List.append_nil]
 have hl:=zfi T []
 rw[List.length_nil,Nat.add_zero]at hl
 rw[h,List.take_left' hl]
theorem zir (x:Abs.Box)(T:List Abs.Box):zbz T []++[.fz (.sl (x.refs.map enc)),.fz (.sl (x.conds.map enc))]=zbz (x::T) []:=by
 rw[zeA]
 unfold zbz zag
 rw[List.append_nil,List.map_append,List.flatMap_append,List.map_singleton,List.flatMap_singleton,zaQ];rfl
theorem zqn (x:Abs.Box)(T J:List Abs.Box):((zbz (x::T) J).drop (T.length*2)).take 2=[.fz (.sl (x.refs.map enc)),.fz (.sl (x.conds.map enc))]:=by
 have h:zbz (x::T) J=zbz T []++([.fz (.sl (x.refs.map enc)),.fz (.sl (x.conds.map enc))]++zag (J.map enc)):=by
  rw[←List.append_assoc,zir]
  unfold zbz zag
  rw[List.map_append,List.flatMap_append,List.append_nil]
 have hl:=zfi T []
 rw[List.length_nil,Nat.add_zero]at hl
 rw[h,List.drop_left' hl]
 rfl
theorem r23:V17 23=some (zsM opP fun b path=>path.length+2*b.size≤1000000):=rfl
theorem r24:V17 24=some (sp1 btS zxO):=rfl
theorem r25:V17 25=some (sp2 (fun(l:List Str) (s:Str)=>decide (s∈l)) fun _ _=>True):=rfl
theorem r26:V17 26=some (sp3 (fun b path (a:Int)=>ze6 b path a.toNat) zDa):=rfl
def zj5:Tv:=(.q 0 (.q 1 (.q 2 (.q 4 (.br [(3,(.q 5 (.q 6 (.br [(7,(.q 8 (.q 9 .leaf)))])))),(5,(.q 6 (.br [(3,(.br [(7,(.q 8 (.q 9 .leaf)))]))])))])))))
def V18:Tbl:=V17.add 8 (zu7 zuH fun b=>(zcy b).code=0)
set_option maxHeartbeats 8000000 in
theorem zF3:zan Tryd.prog G0 V18:=by
 refine zr7 ok8 zxk fun b hb _=>?_
 obtain⟨M,hM⟩:∃M,zyj b=M:=⟨_,rfl⟩
 have hdp:zuH b=(M.2,M.1):=by unfold zuH;rw[hM]
 have hM':zkU [b] 0 []=M:=hM
 rw[hdp]
 obtain⟨Q,hQ⟩:∃Q:D→zas→Nat→Prop,Q=(fun d _ _=>D.val d=some (.tup [.fz (enc M.2),.fz (enc M.1)])):=⟨_,rfl⟩
 rw[←hQ]
 have kq:=Kp.mk hQ
 clear hQ hM hdp
 refine zaj (N:=79) hm zxk 8000 (lsw [52,56] [16,77,1000015]) ok8 Tryd.func8 rfl rfl (by simp) (by kernel_rfl) ?_
 repeat'(first|refine And.intro ?_ ?_|exact True.intro|refine rq fun _=>?_|refine rf fun _=>?_|simp only[go_sem,zad,zab,zae,zaf,zaa,Tryd.f8,r23,r24,r25,r26,zho])
 refine zar hm zxk 8000 (lsw [52,56] [16,77,1000015]) (ι:=zBg M)
  ⟨fun q=>⟨frL [(4,.arr (8077,q.a) 2 0 (q.T).length),(5,.ow (8056,q.g) 2 ((q.out).map enc)),(6,.ow (8052,q.h) 1 ((btL (q.out)).map enc)),(7,.fz (.i .i64 ((q.n:Nat)+1:Int)))],hpL [((8077,q.a),some ⟨zbz (q.T) (q.J),false,false⟩),((8056,q.g),some tok),((8052,q.h),some tok)],q.m⟩,fun q=>20002-q.n⟩
  ⟨[b],[],[],0,2,3,4,5,by omega,by omega,by omega,by omega,by simpa using hb,by simp,by simp,by simp,hM'⟩ (by kernel_rfl) ?_ ?_
 ·refine zaO [((8077,2),(8016,1))] [(8056,3),(8052,4)] [] ?_ ?_ ?_ ?_ ?_<;>(try simp only[go_sem,zt3,zmd,vL,zBG])
  all_goals(try(repeat'(first|refine And.intro ?_ ?_|omega|rfl)))
  all_goals trace_state
 rintro⟨T,J,out,n,a,g,h,m,hn,ha,hg,hh,hT,ho,hol,htl,hd⟩
 try simp only at hn ha hg hh hT ho hol htl hd
 cases T with
 |nil=>
  rw[znI hn]at hd
  have hM1:M.1=true:=by rw[←hd]
  have hM2:M.2=out:=by rw[←hd]
  repeat'(first|refine And.intro ?_ ?_|exact True.intro|refine rq fun _=>?_|refine rf fun _=>?_|simp only[go_sem,zad,zab,zae,zaf,zaa,Tryd.f8,r23,r24,r25,r26,zho])
  all_goals
   rw[kq.out,hM1,hM2]
   simp only[go_sem]
   all_goals first|done|rfl|omega
 |cons x T=>
  rw[zkV hn]at hd
  have hx:=hT x (by simp)
  have htl2:T.length≤n*1000000:=by rw[List.length_cons]at htl;omega
  have hT0:((0:Int)<(T.length:Int)+1)=True:=eq_true (by omega)
  by_cases hn2:20000<n+1
  ·rw[if_pos hn2]at hd
   have hM1:M.1=false:=by rw[←hd]
   have hM2:M.2=[]:=by rw[←hd]
   have hnt:((20000:Int)<(n:Int)+1)=True:=eq_true (by omega)
   repeat'(first|refine And.intro ?_ ?_|exact True.intro|refine rq fun _=>?_|refine rf fun _=>?_|simp only[go_sem,hnt,hT0,List.length_cons,zad,zab,zae,zaf,zaa,Tryd.f8,r23,r24,r25,r26,zho])
   all_goals
    try rw[kq.out,hM1,hM2]
    try simp only[go_sem]
    all_goals first|done|rfl|omega
  rw[if_neg hn2]at hd
  have hnt:((20000:Int)<(n:Int)+1)=False:=eq_false (by omega)
  have hCl:T.length*2+2≤(zbz (x::T) J).length:=by
   rw[zfi,List.length_cons]
   omega
  have hi1:((T.length:Int)+1-1)=(T.length:Int):=by omega
  have hctop:=zqn x T J
  have hsz:2*x.size≤1000000:=by
   have h1:=(VB.of hx).nod
   have h2:=zep x
   omega
  have hokx:=zfX hx
  rcases ztK hokx with⟨h1,h2⟩|⟨pa,at',h1,h2,h3⟩
  ·have hu:=(zhu hokx).1 h2
   rw[h2]at hd
   have hd:=(show(if 200<(zdq out x).length then(false,[])else zkU T (n+1) (zdq out x))=M from hd)
   have hop:opP x []=([],0,false):=zjH h1
   have hbt:zxO x:=zwq hx hu
   have hfx:zmb x:=⟨hx,hu⟩
   have hin:(⟨btB x⟩:Str)∈btL out↔x∈out:=zvv ho hfx
   by_cases hxo:x∈out
   ·have hmt:decide ((⟨btB x⟩:Str)∈btL out)=true:=decide_eq_true (hin.2 hxo)
    have hax:zdq out x=out:=by unfold zdq;rw[if_pos hxo]
    rw[hax,if_neg (by omega)]at hd
    have hot:((200:Int)<(out.length:Int))=False:=eq_false (by omega)
    repeat'(first|refine zaH.i hbt fun _=>?_|refine And.intro ?_ ?_|exact True.intro|refine rq fun _=>?_|refine rf fun _=>?_|simp only[go_sem,hnt,hT0,hi1,hctop,hop,hmt,hot,Int.toNat_natCast,List.length_cons,zad,zab,zae,zaf,zaa,Tryd.f8,r23,r24,r25,r26,zho])
    all_goals
     refine⟨⟨T,x::J,out,n+1,a,g,h,m+1,by omega,by omega,by omega,by omega,fun y hy=>hT y (by simp[hy]),ho,hol,by omega,hd⟩,by simp only;omega,?_⟩
     refine zah ?_ ?_ ?_<;>(try simp only[go_sem,←zeA])
     all_goals first|done|rfl|omega
   ·have hmt:decide ((⟨btB x⟩:Str)∈btL out)=false:=decide_eq_false fun e=>hxo (hin.1 e)
    have hax:zdq out x=out++[x]:=by unfold zdq;rw[if_neg hxo]
    rw[hax,List.length_append,List.length_singleton]at hd
    have hfo:∀y∈out++[x],zmb y:=fun y hy=>by
     rcases List.mem_append.1 hy with hy|hy
     ·exact ho y hy
     ·rw[List.mem_singleton.1 hy];exact hfx
    have hbl:(btL out).length=out.length:=by unfold btL;rw[List.length_map]
    by_cases h20:200<out.length+1
    ·rw[if_pos h20]at hd
     have hM1:M.1=false:=by rw[←hd]
     have hM2:M.2=[]:=by rw[←hd]
     have hot:((200:Int)<(out.length:Int)+1)=True:=eq_true (by omega)
     repeat'(first|refine zaH.i hbt fun _=>?_|refine zay (id:=15) hm zxk 8000 (lsw [52,56] [16,77,1000015]) zj5 (by kernel_rfl) (by kernel_rfl) ?_|refine And.intro ?_ ?_|exact True.intro|refine rq fun _=>?_|refine rf fun _=>?_|simp only[go_sem,hnt,hT0,hi1,hctop,hop,hmt,hot,zj5,Int.toNat_natCast,List.length_cons,List.length_append,List.length_map,List.length_singleton,List.length_nil,zad,zab,zae,zaf,zaa,Tryd.f8,r23,r24,r25,r26,zho])
     all_goals
      try rw[kq.out,hM1,hM2]
      try simp only[go_sem]
      all_goals first|done|rfl|omega
    ·rw[if_neg h20]at hd
     have hot:((200:Int)<(out.length:Int)+1)=False:=eq_false (by omega)
     repeat'(first|refine zaH.i hbt fun _=>?_|refine zay (id:=15) hm zxk 8000 (lsw [52,56] [16,77,1000015]) zj5 (by kernel_rfl) (by kernel_rfl) ?_|refine And.intro ?_ ?_|exact True.intro|refine rq fun _=>?_|refine rf fun _=>?_|simp only[go_sem,hnt,hT0,hi1,hctop,hop,hmt,hot,zj5,Int.toNat_natCast,List.length_cons,List.length_append,List.length_map,List.length_singleton,List.length_nil,zad,zab,zae,zaf,zaa,Tryd.f8,r23,r24,r25,r26,zho])
     all_goals
      refine⟨⟨T,x::J,out++[x],n+1,a,m+1+1,m+1,m+1+1+1,by omega,by omega,by omega,by omega,fun y hy=>hT y (by simp[hy]),hfo,by rw[List.length_append,List.length_singleton];omega,by omega,hd⟩,by simp only;omega,?_⟩
      refine zah ?_ ?_ ?_<;>(try simp only[go_sem,←zeA,zs2,List.map_append,Int.sub_zero,Int.toNat_natCast])
      all_goals first|done|rfl|omega
  ·have hop:opP x []=(pa,(at':Int),true):=by rw[zjI h1];rfl
   rw[h3]at hd
   have hd:=(show zkU (ze6 x pa at'++T) (n+1) out=M from hd)
   have hse:zDa x pa (at':Int):=⟨by omega,hx,by rw[Int.toNat_natCast];exact h2⟩
   have hll:=zt8 hx h2
   have hlv:=zjz hx h3
   obtain⟨l,hl⟩:∃l,ze6 x pa at'=l:=⟨_,rfl⟩
   rw[hl]at hd hll hlv
   obtain⟨U,hU⟩:∃U:Nat→List Abs.Box,U=fun q=>l.drop (l.length-q)++T:=⟨_,rfl⟩
   have hU0:U 0=T:=by rw[hU];simp
   have hUe:U l.length=l++T:=by rw[hU];simp
   have hUl:∀q,q≤l.length→(U q).length=T.length+q:=fun q hq=>by rw[hU];simp only[List.length_append,List.length_drop];omega
   have hUs:∀q (h:q<l.length) (h':l.length-1-q<l.length),U (q+1)=l[l.length-1-q]::U q:=fun q h h'=>by
    rw[hU];simp only
    rw[show l.length-(q+1)=l.length-1-q by omega,List.drop_eq_getElem_cons h',List.cons_append,show l.length-1-q+1=l.length-q by omega]
   have kUs:=Kp.mk hUs
   have kUl:=Kp.mk hUl
   clear hUs hUl hU
   repeat'(first|refine zaH.i hse fun _=>?_|refine And.intro ?_ ?_|exact True.intro|refine rq fun _=>?_|refine rf fun _=>?_|simp only[go_sem,hnt,hT0,hi1,hctop,hop,hl,Int.toNat_natCast,List.length_cons,zad,zab,zae,zaf,zaa,Tryd.f8,r23,r24,r25,r26,zho])
   refine zbM hm zxk 8000 (lsw [52,56] [16,77,1000015]) (ι:=zBe l.length (m+1))
    ⟨fun q=>⟨frL [(4,.arr (8077,q.a) 2 0 (T.length+q.q)),(5,.ow (8056,g) 2 (out.map enc)),(6,.ow (8052,h) 1 ((btL out).map enc)),(7,.fz (.i .i64 ((n:Nat)+1:Int))),(13,.fz (.sl (l.map enc))),(14,.fz (.i .i64 ((l.length:Int)-1-q.q)))],hpL [((8077,q.a),some ⟨zbz (U q.q) q.J,false,false⟩),((8056,g),some tok),((8052,h),some tok)],q.m⟩,fun q=>l.length-q.q⟩
    ⟨0,x::J,a,m+1,by omega,by omega,by omega⟩ (by kernel_rfl) ?_ ?_
   ·refine zah ?_ ?_ ?_<;>(try simp only[go_sem,hU0,←zeA,Int.sub_zero])
    all_goals first|done|rfl|omega
   rintro⟨q,J2,a2,m2,hq,ha2,hm2⟩
   try simp only at hq ha2 hm2
   have hU1:=kUl.out q hq
   rcases Nat.lt_or_ge q l.length with h4|h4
   ·have hqt:((0:Int)≤(l.length:Int)-1-(q:Int))=True:=eq_true (by omega)
    have hix:((l.length:Int)-1-(q:Int)).toNat=l.length-1-q:=by omega
    have hix2:l.length-1-q<l.length:=by omega
    have hus:=kUs.out q h4 hix2
    obtain⟨y,hy⟩:∃y,l[l.length-1-q]=y:=⟨_,rfl⟩
    rw[hy]at hus
    have hct:=zoA (U q) J2
    rw[hU1]at hct
    have hsn:zbz (U q) []++zag [FD.agg [FD.sl (y.refs.map enc),FD.sl (y.conds.map enc)]]=zbz (y::U q) []:=zir y (U q)
    have hcl:=zfi (U q) J2
    rw[hU1]at hcl
    have hi9:(l.length:Int)-1-(((q+1:Nat)):Int)=(l.length:Int)-1-(q:Int)-1:=by omega
    repeat'(first|refine zaH.i ⟨by omega,by unfold zaZ;omega,by omega⟩ fun _=>?_|refine And.intro ?_ ?_|exact True.intro|refine rq fun _=>?_|refine rf fun _=>?_|simp only[go_sem,hqt,hix,hix2,hy,hct,hsn,hcl,zad,zab,zae,zaf,zaa,Tryd.f8,r23,r24,r25,r26,zho])
    all_goals
     refine⟨⟨q+1,[],m2,m2+1,by omega,by omega,by omega⟩,by simp only;omega,?_⟩
     refine zah ?_ ?_ ?_<;>(try simp only[go_sem,hus,hi9,Nat.add_assoc])
     all_goals first|done|rfl|omega
   obtain rfl:q=l.length:=by omega
   have hqt:((0:Int)≤(l.length:Int)-1-(l.length:Int))=False:=eq_false (by omega)
   have hla:(l++T).length=T.length+l.length:=by rw[List.length_append,Nat.add_comm]
   repeat'(first|refine And.intro ?_ ?_|exact True.intro|refine rq fun _=>?_|refine rf fun _=>?_|simp only[go_sem,hqt,zad,zab,zae,zaf,zaa,Tryd.f8,r23,r24,r25,r26,zho])
   all_goals
    refine⟨⟨l++T,J2,out,n+1,a2,g,h,m2,by omega,by omega,by omega,by omega,fun y hy=>?_,ho,hol,by rw[hla];omega,hd⟩,by simp only;omega,?_⟩
    ·rcases List.mem_append.1 hy with hy|hy
     ·exact(hlv y hy).1
     ·exact hT y (by simp[hy])
    ·refine zah ?_ ?_ ?_<;>(try simp only[go_sem,hla,hUe])
     all_goals first|done|rfl|omega
end Go.Proofs.YtalbdmcklgglbaaDoor
namespace Go.Proofs.YtalbdmcklgglbaaDoor
open Go Go.Abs Go.Proofs
def exM:Abs.Box:= .mk [sX,sY] [.mk 1 ⟨[]⟩ (zhM zA6 [sX]) [],zbc sY sX]
theorem zfF:zgT zrX=([exM],⟨0,0⟩):=by kernel_rfl
def Y0:Tbl:=Tbl.or V18 Q29
theorem hY0:zan Tryd.prog GA Y0:=zil (zsU zF3 zFX)
theorem y5:Y0 5=some (zu7 zgT fun _=>True):=rfl
theorem y6:Y0 6=some (sp0 zrX):=rfl
theorem y7:Y0 7=some (sp1 zcy fun _=>True):=rfl
theorem y8:Y0 8=some (zu7 zuH fun b=>(zcy b).code=0):=rfl
theorem y9:Y0 9=some (sp2 (fun a b:List Abs.Box=>decide (a=b)) fun _ _=>True):=rfl
theorem y10:Y0 10=some (sp1 zcy fun _=>True):=rfl
theorem y12:Y0 12=some (sp2 (fun a b:Abs.Box=>decide (a=b)) fun _ _=>True):=rfl
set_option maxHeartbeats 8000000 in
theorem zEC (hT:zan Tryd.prog GA Y0)(b:Abs.Box)(_:(enc b).Wf):zav Tryd.prog GA 3 [.fz (enc b)] (hpL []) 0 (fun d _ _=>d= .fz (.b true)):=by
 by_cases h0:(zcy b).code=0
 case neg=>
  obtain⟨X,hX⟩:∃X,zcy b=X:=⟨_,rfl⟩
  have hr:zgT b=([],X):=by unfold zgT;rw[if_pos h0,hX]
  rw[hX]at h0
  have h0':(X.code=0)=False:=eq_false h0
  refine zaj (N:=72) hm hT 3000 (lst []) ok3 Tryd.func3 rfl rfl (by simp) (by kernel_rfl) ?_
  repeat'(first|refine And.intro ?_ ?_|exact True.intro|refine rq fun _=>?_|refine rf fun _=>?_|simp only[go_sem,zfF,exM,hr,hX,h0',zad,zab,zae,zaf,zaa,GA,Tryd.f3,y5,y6,y7,y8,y9,y10,y12])
  all_goals first|done|rfl|omega
 have hb0:zcy b=⟨0,0⟩:=(VB.of h0).ok
 have hdoc:=zvF h0
 by_cases h1:(zrR b).1=true
 ·obtain⟨O,hO⟩:∃O,(zrR b).2.out=O:=⟨_,rfl⟩
  have hr:zgT b=(O,⟨0,0⟩):=by unfold zgT;rw[if_neg (by rw[h0];exact fun h=>h rfl),if_pos h1,hO]
  have hd:zuH b=(O,true):=by unfold zuH;rw[hdoc,if_pos h1,hO]
  refine zaj (N:=72) hm hT 3000 (lst []) ok3 Tryd.func3 rfl rfl (by simp) (by kernel_rfl) ?_
  repeat'(first|refine zaH.i h0 fun _=>?_|refine And.intro ?_ ?_|exact True.intro|refine rq fun _=>?_|refine rf fun _=>?_|simp only[go_sem,zfF,exM,hr,hb0,hd,zad,zab,zae,zaf,zaa,GA,Tryd.f3,y5,y6,y7,y8,y9,y10,y12])
  all_goals first|done|rfl|omega
 ·have hr:zgT b=([],⟨17, -1⟩):=by unfold zgT;rw[if_neg (by rw[h0];exact fun h=>h rfl),if_neg h1]
  have hd:zuH b=([],false):=by unfold zuH;rw[hdoc,if_neg h1]
  refine zaj (N:=72) hm hT 3000 (lst []) ok3 Tryd.func3 rfl rfl (by simp) (by kernel_rfl) ?_
  repeat'(first|refine zaH.i h0 fun _=>?_|refine And.intro ?_ ?_|exact True.intro|refine rq fun _=>?_|refine rf fun _=>?_|simp only[go_sem,zfF,exM,hr,hb0,hd,zad,zab,zae,zaf,zaa,GA,Tryd.f3,y5,y6,y7,y8,y9,y10,y12])
  all_goals first|done|rfl|omega
end Go.Proofs.YtalbdmcklgglbaaDoor
