/- several texts of this proof in one; no conditions -/
import Derived.Test.YtkkffhphodngkaaDoorAT
import Derived.Test.YtkkffhphodngkaaDoorZQ88Q861
import Derived.Test.YtkkffhphodngkaaDoorY2
import Derived.Test.YtkkffhphodngkaaDoorTB
import Derived.Test.YtkkffhphodngkaaDoorY7
set_option maxRecDepth 100000
set_option maxHeartbeats 1000000
set_option linter.unusedSimpArgs false
namespace Go.Proofs.YtkkffhphodngkaaDoor
open Go Go.Abs Go.Proofs
section
variable {G:Nat→List FD}
def E1:Tbl:=Tbl.or B27 A22
attribute [go_sem] E1
theorem hE1:zan Tryd.prog G E1:=zjH zHb zG6
def E2:Tbl:=E1
attribute [go_sem] E2
theorem hE2:zan Tryd.prog G E2:=hE1
def E3:Tbl:=E2
attribute [go_sem] E3
theorem hE3:zan Tryd.prog G E3:=hE2
end
end Go.Proofs.YtkkffhphodngkaaDoor
namespace Go.Proofs.YtkkffhphodngkaaDoor
open Go Go.Abs Go.Proofs
section
variable {G:Nat→List FD}
theorem zfm {n:Nat}{d:D}:(List.range n).map (fun j=>[d].getD (j % 1) .junk)=List.replicate n d:=by
 simp[Nat.mod_one,List.map_const']
theorem zb3 {n:Nat}:List.replicate n (D.fz (.b false))=zae ((List.replicate n false).map enc):=by
 rw[zaY];simp[ztX]
theorem zc1 {fn:FuncId}{args:List D}{xs:List Bool}(h:zay Tryd.prog G fn args (hpL []) 0 (fun d H n'=>∃id:Abs.Id,id.2<n'∧d= .arr id 1 0 xs.length∧H id=some ⟨zae (xs.map enc),false,false⟩)):
  zay Tryd.prog G fn args (hpL []) 0 (fun d _ _=>D.val d=some (.fz (enc xs))):=by
 refine zcs h ?_
 rintro d H n' ⟨id,hid,rfl,hH⟩
 refine⟨.fz (.sl (xs.map enc)),hpL [],n',?_,rfl⟩
 refine zbc [] [] [(id,xs.map enc)] ?_ ?_ ?_ ?_ ?_<;>(try simp only[go_sem,hH])
 all_goals first|done|omega
structure zg8 (m:zal)(f:Abs.zaf)(vars:List Str):Prop where
 gd:zAi m
 vk:vok f
 sz:szP f
 nl:vars.length+zbf f≤6
 cs:∀c∈cst f vars,(zct m c).isSome=true
set_option maxHeartbeats 4000000 in
theorem zIc {n:Nat}(hT:zan Tryd.prog G (E3.add 41 (sp3 zcJ fun m f vs=>f.size<n∧zg8 m f vs))){m:zal}{f:Abs.zaf}{vars:List Str}(hn:f.size=n)(hp:zg8 m f vars)(hk:f.kind=1):zay Tryd.prog G 41 [.fz (enc m),.fz (enc f),.fz (enc vars)] (hpL []) 0 (fun d _ _=>D.val d=some (.fz (enc (zcJ m f vars)))):=by
 obtain⟨V,hV⟩:∃V:Nat→Bool,V=zcf m f vars:=⟨_,rfl⟩
 obtain⟨s,hs⟩:∃s:Nat,m.size=(s:Int):=⟨m.size.toNat,by have:=hp.gd.v.s1;omega⟩
 have me:zal.mk (s:Int) m.consts m.rels=m:=by rw[←hs]
 have hs1:1≤s:=by have:=hp.gd.v.s1;omega
 have hs6:s≤6:=by have:=hp.gd.v.s6;omega
 have hvl:vars.length≤6:=by have:=hp.nl;omega
 obtain⟨W,hW⟩:∃W:Nat→Nat,W=fun i=>s^i:=⟨_,rfl⟩
 have hW0:W 0=1:=by rw[hW];rfl
 have hWs:∀i,(W i:Int)*(s:Int)=(W (i+1):Int):=fun i=>by rw[hW];simp only;rw[Nat.pow_succ];simp
 have hWl:∀i,i≤6→W i≤46656:=fun i h=>by
  rw[hW]
  exact Nat.le_trans (Nat.pow_le_pow_left hs6 i) (Nat.pow_le_pow_right (by omega) h)
 obtain⟨N,hN⟩:∃N,W vars.length=N:=⟨_,rfl⟩
 have hNl:N≤46656:=by rw[←hN];exact hWl _ hvl
 have hT':zcJ m f vars=(List.range N).map V:=by
  unfold zcJ
  rw[hV,←hN,hW,hs];rfl
 have hP0:=zbT V N
 rw[hT',←zcj V N]
 refine zc1 ?_
 have hpl:∀i,(zaP V N i).length=N:=fun i=>zbz V N i
 have kT:=Kp.mk hT
 have kW:=Kp.mk hWs
 have kl:=Kp.mk hWl
 clear hT hT' hW hWs hWl
 refine zah (N:=345) hm kT.out 41000 (lst []) ztq Tryd.func41 rfl rfl (by simp) (by kernel_rfl) ?_
 repeat'(first|refine rq fun _=>?_|simp only[go_sem,hs,Tryd.f41])
 refine zai hm kT.out 41000 (lst []) (ι:=za5 vars.length fun _=>True)
  ⟨fun q=>⟨frL [(2,.fz (.sl (vars.map enc))),(3,.ptr (41003,0) 0),(4,.ptr (41004,1) 0),(7,.fz (.i .i64 (W q.i:Nat))),(34,.fz (.i .i64 vars.length)),(35,.fz (.i .i64 q.i))],hpL [((41003,0),some ⟨[.fz (.i .i64 s),.fz (.sl (m.consts.map enc)),.fz (.sl (m.rels.map enc))],true,false⟩),((41004,1),some ⟨[.fz (.i .i64 f.kind),.fz (.s f.name.l),.fz (.sl (f.words.map enc)),.fz (.sl (f.subs.map enc))],true,false⟩)],2⟩,fun q=>vars.length-q.i⟩
  ⟨0,by omega,trivial⟩ (by kernel_rfl) ?_ ?_
 ·refine zag ?_ ?_ ?_<;>simp only[go_sem,hW0,hs]
  all_goals first|done|rfl|omega
 rintro⟨i,hi,_⟩
 try simp only at hi
 rcases Nat.lt_or_ge i vars.length with h1|h1
 ·have hws:=kW.out i
  have hwl:=kl.out (i+1) (by omega)
  repeat'(first|refine rq fun _=>?_|simp only[go_sem,h1,hws,Tryd.f41])
  refine⟨⟨i+1,by omega,trivial⟩,by simp only;omega,?_⟩
  refine zag ?_ ?_ ?_<;>simp only[go_sem,hws]
  all_goals first|done|rfl|omega
 obtain rfl:i=vars.length:=by omega
 have hV1:∀i,V i=true:=fun i=>by
  rw[hV]
  obtain⟨a,b,c,d⟩:=f
  simp only[zaz]at hk
  subst hk
  exact zxr m b c d vars i
 have kV:=Kp.mk hV1
 clear hV1 hV hp hn
 repeat'(first|refine rq fun _=>?_|simp only[go_sem,Nat.lt_irrefl,hN,hk,zfm,zb3,←hP0,Tryd.f41])
 refine zai hm kT.out 41000 (lst []) (ι:=za5 N fun _=>True)
  ⟨fun q=>⟨frL [(2,.fz (.sl (vars.map enc))),(3,.ptr (41003,0) 0),(4,.ptr (41004,1) 0),(8,.arr (41043,2) 1 0 N),(131,.arr (41043,2) 1 0 N),(132,.fz (.i .i64 N)),(133,.fz (.i .i64 q.i))],hpL [((41003,0),some ⟨[.fz (.i .i64 s),.fz (.sl (m.consts.map enc)),.fz (.sl (m.rels.map enc))],true,false⟩),((41004,1),some ⟨[.fz (.i .i64 f.kind),.fz (.s f.name.l),.fz (.sl (f.words.map enc)),.fz (.sl (f.subs.map enc))],true,false⟩),((41043,2),some ⟨zae ((zaP V N q.i).map enc),false,false⟩)],3⟩,fun q=>N-q.i⟩
  ⟨0,by omega,trivial⟩ (by kernel_rfl) ?_ ?_
 ·refine zag ?_ ?_ ?_<;>simp only[go_sem,hk]
  all_goals first|done|rfl|omega
 rintro⟨i,hi,_⟩
 try simp only at hi
 rcases Nat.lt_or_ge i N with h1|h1
 ·have hset:(zae ((zaP V N i).map enc)).set i (.fz (.b true))=zae ((zaP V N (i+1)).map enc):=by
   rw[←zck h1,←zaV,kV.out];rfl
  repeat'(first|refine rq fun _=>?_|simp only[go_sem,h1,hpl,Tryd.f41])
  refine⟨⟨i+1,by omega,trivial⟩,by simp only;omega,?_⟩
  refine zag ?_ ?_ ?_<;>simp only[go_sem,hset,hk]
  all_goals first|done|rfl|omega
 obtain rfl:i=N:=by omega
 repeat'(first|refine rq fun _=>?_|simp only[go_sem,Nat.lt_irrefl,hpl,Tryd.f41])
 exact⟨(41043,2),by simp only;omega,rfl,by simp only[go_sem]⟩
end
end Go.Proofs.YtkkffhphodngkaaDoor
namespace Go.Proofs.YtkkffhphodngkaaDoor
open Go Go.Abs Go.Proofs
section
variable {G:Nat→List FD}
theorem zoL {α:Type}{l:List α}(h:l.length=1):∃a,l=[a]:=by
 match l,h with
 |[a],_=>exact⟨a,rfl⟩
theorem zmy {α:Type}{l:List α}(h:l.length=2):∃a b,l=[a,b]:=by
 match l,h with
 |[a,b],_=>exact⟨a,b,rfl⟩
theorem zoj {f g:Abs.zaf}{vars:List Str}{x:Str}(hg:g∈f.subs)(h:x∈cst g (if isQ f.kind then vars++[f.name]else vars)):x∈cst f vars:=by
 obtain⟨k,nm,ws,s⟩:=f
 rw[cst,List.mem_append]
 exact .inr (zol.2 ⟨g,hg,h⟩)
theorem zej {m:zal}{f g:Abs.zaf}{vars:List Str}(h:zg8 m f vars)(hq:¬isQ f.kind)(hg:g∈f.subs):g.size<f.size∧zg8 m g vars:=by
 have h1:=zgF (f:=f)
 rw[if_neg hq]at h1
 have h2:=zeK hg
 have h3:=h.nl
 refine⟨zaf.size_sub hg,h.gd,(ze5 _).1 (zdm.1 h.vk).2.2.2.2.2.2 g hg,(zfs h.sz hg).2,by omega,fun c hc=>h.cs c (zoj hg (by rw[if_neg hq];exact hc))⟩
theorem zvV {m:zal}{f g:Abs.zaf}{vars:List Str}(h:zg8 m f vars)(hq:isQ f.kind)(hg:g∈f.subs):g.size<f.size∧zg8 m g (vars++[f.name]):=by
 have h1:=zgF (f:=f)
 rw[if_pos hq]at h1
 have h2:=zeK hg
 have h3:=h.nl
 refine⟨zaf.size_sub hg,h.gd,(ze5 _).1 (zdm.1 h.vk).2.2.2.2.2.2 g hg,(zfs h.sz hg).2,by rw[List.length_append,List.length_cons,List.length_nil];omega,fun c hc=>h.cs c (zoj hg (by rw[if_pos hq];exact hc))⟩
theorem zb1 {l:List Bool}{i:Nat}(h:i<l.length):(l.map enc).getD i FD.nilf=FD.b (l.getD i false):=by
 rw[zaa h,List.getD_eq_getElem?_getD,List.getElem?_eq_getElem h];rfl
def zmt:Tv:=(.q 0 (.q 1 (.q 2 (.q 3 (.q 4 (.q 5 (.q 6 (.q 7 .leaf))))))))
set_option maxHeartbeats 4000000 in
theorem zIf {n:Nat}(hT:zan Tryd.prog G (E3.add 41 (sp3 zcJ fun m f vs=>f.size<n∧zg8 m f vs))){m:zal}{f:Abs.zaf}{vars:List Str}(hn:f.size=n)(hp:zg8 m f vars)(hk:f.kind=4):zay Tryd.prog G 41 [.fz (enc m),.fz (enc f),.fz (enc vars)] (hpL []) 0 (fun d _ _=>D.val d=some (.fz (enc (zcJ m f vars)))):=by
 have hlen:=(zdm.1 hp.vk).2.2.2.2.1 (.inl hk)
 obtain⟨g,hb⟩:=zoL hlen
 have hq:¬isQ f.kind:=by rw[hk];unfold isQ;omega
 have hga:=zej hp hq (g:=g) (by rw[hb];simp)
 rw[hn]at hga
 have hgb:=hga
 obtain⟨V,hV⟩:∃V:Nat→Bool,V=zcf m f vars:=⟨_,rfl⟩
 obtain⟨s,hs⟩:∃s:Nat,m.size=(s:Int):=⟨m.size.toNat,by have:=hp.gd.v.s1;omega⟩
 have me:zal.mk (s:Int) m.consts m.rels=m:=by rw[←hs]
 have hs1:1≤s:=by have:=hp.gd.v.s1;omega
 have hs6:s≤6:=by have:=hp.gd.v.s6;omega
 have hvl:vars.length≤6:=by have:=hp.nl;omega
 obtain⟨W,hW⟩:∃W:Nat→Nat,W=fun i=>s^i:=⟨_,rfl⟩
 have hW':=hW
 have hW0:W 0=1:=by rw[hW];rfl
 have hWs:∀i,(W i:Int)*(s:Int)=(W (i+1):Int):=fun i=>by rw[hW];simp only;rw[Nat.pow_succ];simp
 have hWl:∀i,i≤6→W i≤46656:=fun i h=>by
  rw[hW]
  exact Nat.le_trans (Nat.pow_le_pow_left hs6 i) (Nat.pow_le_pow_right (by omega) h)
 obtain⟨N,hN⟩:∃N,W vars.length=N:=⟨_,rfl⟩
 have hNl:N≤46656:=by rw[←hN];exact hWl _ hvl
 have hT':zcJ m f vars=(List.range N).map V:=by
  unfold zcJ
  rw[hV,←hN,hW,hs];rfl
 have hP0:=zbT V N
 rw[hT',←zcj V N]
 refine zc1 ?_
 have hpl:∀i,(zaP V N i).length=N:=fun i=>zbz V N i
 have kT:=Kp.mk hT
 have kW:=Kp.mk hWs
 have kl:=Kp.mk hWl
 clear hT hT' hW hWs hWl
 refine zah (N:=345) hm kT.out 41000 (lst [1000008,1000011]) ztq Tryd.func41 rfl rfl (by simp) (by kernel_rfl) ?_
 repeat'(first|refine rq fun _=>?_|simp only[go_sem,hs,Tryd.f41])
 refine zai hm kT.out 41000 (lst [1000008,1000011]) (ι:=za5 vars.length fun _=>True)
  ⟨fun q=>⟨frL [(2,.fz (.sl (vars.map enc))),(3,.ptr (41003,0) 0),(4,.ptr (41004,1) 0),(7,.fz (.i .i64 (W q.i:Nat))),(34,.fz (.i .i64 vars.length)),(35,.fz (.i .i64 q.i))],hpL [((41003,0),some ⟨[.fz (.i .i64 s),.fz (.sl (m.consts.map enc)),.fz (.sl (m.rels.map enc))],true,false⟩),((41004,1),some ⟨[.fz (.i .i64 f.kind),.fz (.s f.name.l),.fz (.sl (f.words.map enc)),.fz (.sl (f.subs.map enc))],true,false⟩)],2⟩,fun q=>vars.length-q.i⟩
  ⟨0,by omega,trivial⟩ (by kernel_rfl) ?_ ?_
 ·refine zag ?_ ?_ ?_<;>simp only[go_sem,hW0,hs]
  all_goals first|done|rfl|omega
 rintro⟨i,hi,_⟩
 try simp only at hi
 rcases Nat.lt_or_ge i vars.length with h1|h1
 ·have hws:=kW.out i
  have hwl:=kl.out (i+1) (by omega)
  repeat'(first|refine rq fun _=>?_|simp only[go_sem,h1,hws,Tryd.f41])
  refine⟨⟨i+1,by omega,trivial⟩,by simp only;omega,?_⟩
  refine zag ?_ ?_ ?_<;>simp only[go_sem,hws]
  all_goals first|done|rfl|omega
 obtain rfl:i=vars.length:=by omega
 have hVi:∀i,V i= !zcf m g vars i:=fun i=>by
  rw[hV]
  obtain⟨a,b,c,d⟩:=f
  simp only[zaz,zaW]at hk hb
  subst hk
  subst hb
  exact zxq
 obtain⟨A,hA⟩:∃A,zcJ m g vars=A:=⟨_,rfl⟩
 have hAl:A.length=N:=by rw[←hA,zc0];rw[←hN,hW',hs];rfl
 have hAg:∀i,i<N→A.getD i false=zcf m g vars i:=fun i h=>by rw[←hA];exact zcZ (by rw[hs];rw[←hN,hW']at h;exact h)
 have hB:=hA
 have hBl:=hAl
 have hBg:=hAg
 have kV:=Kp.mk hVi
 have kA:=Kp.mk hAg
 have kB:=Kp.mk hBg
 clear hVi hAg hBg hV hp hn hW'
 repeat'(first|refine zaK hm kT.out 41000 (lst [1000008,1000011]) zmt (by kernel_rfl) (by kernel_rfl) ?_|refine And.intro ?_ ?_|exact True.intro|refine zaB.i hga fun _=>?_|refine zaB.i hgb fun _=>?_|refine rq fun _=>?_|simp only[go_sem,hk,hb,hs,me,hA,hB,Nat.lt_irrefl,hN,zfm,zb3,←hP0,zmt,zad,zac,zab,zaa,Tryd.f41])
 refine zai hm kT.out 41000 (lst [1000008,1000011]) (ι:=za5 N fun _=>True)
  ⟨fun q=>⟨frL [(2,.fz (.sl (vars.map enc))),(3,.ptr (41003,0) 0),(4,.ptr (41004,1) 0),(8,.arr (41043,2) 1 0 N),(30,.fz (.sl (A.map enc))),(31,.fz (.sl (A.map enc))),(65,.arr (41043,2) 1 0 N),(66,.fz (.i .i64 N)),(67,.fz (.i .i64 q.i))],hpL [((41003,0),some ⟨[.fz (.i .i64 s),.fz (.sl (m.consts.map enc)),.fz (.sl (m.rels.map enc))],true,false⟩),((41004,1),some ⟨[.fz (.i .i64 f.kind),.fz (.s f.name.l),.fz (.sl (f.words.map enc)),.fz (.sl (f.subs.map enc))],true,false⟩),((41043,2),some ⟨zae ((zaP V N q.i).map enc),false,false⟩)],3⟩,fun q=>N-q.i⟩
  ⟨0,by omega,trivial⟩ (by kernel_rfl) ?_ ?_
 ·refine zag ?_ ?_ ?_<;>simp only[go_sem,hk,hb,hs]
  all_goals first|done|rfl|omega
 rintro⟨i,hi,_⟩
 try simp only at hi
 rcases Nat.lt_or_ge i N with h1|h1
 ·have hset:∀v,V i=v→(zae ((zaP V N i).map enc)).set i (.fz (.b v))=zae ((zaP V N (i+1)).map enc):=fun v hv=>by
   rw[←zck h1,←zaV,hv];rfl
  have hv:=kV.out i
  have ha:=kA.out i h1
  have hbb:=kB.out i h1
  have ha2:=zb1 (l:=A) (i:=i) (by omega)
  have hb2:=zb1 (l:=A) (i:=i) (by omega)
  rw[ha]at ha2
  rw[hbb]at hb2
  obtain⟨a,hae⟩:∃a,zcf m g vars i=a:=⟨_,rfl⟩
  rw[hae]at ha2 hv
  rw[hae]at hb2
  cases a
  all_goals
   have hset:=hset _ hv
   simp only[Bool.not_true,Bool.not_false,Bool.true_and,Bool.false_and,Bool.true_or,Bool.false_or]at hset
   repeat'(first|refine zaB.i (by rw[ha2];rfl) fun _=>?_|refine zaB.i (by rw[hb2];rfl) fun _=>?_|refine rq fun _=>?_|simp only[go_sem,h1,hpl,hk,hAl,hBl,ha2,hb2,Tryd.f41])
   refine⟨⟨i+1,by omega,trivial⟩,by simp only;omega,?_⟩
   refine zag ?_ ?_ ?_<;>simp only[go_sem,hset,hk,hb,hs]
   all_goals first|done|rfl|omega
 obtain rfl:i=N:=by omega
 repeat'(first|refine rq fun _=>?_|simp only[go_sem,Nat.lt_irrefl,hpl,Tryd.f41])
 exact⟨(41043,2),by simp only;omega,rfl,by simp only[go_sem]⟩
set_option maxHeartbeats 4000000 in
theorem zIg {n:Nat}(hT:zan Tryd.prog G (E3.add 41 (sp3 zcJ fun m f vs=>f.size<n∧zg8 m f vs))){m:zal}{f:Abs.zaf}{vars:List Str}(hn:f.size=n)(hp:zg8 m f vars)(hk:f.kind=5):zay Tryd.prog G 41 [.fz (enc m),.fz (enc f),.fz (enc vars)] (hpL []) 0 (fun d _ _=>D.val d=some (.fz (enc (zcJ m f vars)))):=by
 have hlen:=(zdm.1 hp.vk).2.2.2.2.2.1 (by rw[hk];decide)
 obtain⟨g,h,hb⟩:=zmy hlen
 have hq:¬isQ f.kind:=by rw[hk];unfold isQ;omega
 have hga:=zej hp hq (g:=g) (by rw[hb];simp)
 rw[hn]at hga
 have hgb:=zej hp hq (g:=h) (by rw[hb];simp)
 rw[hn]at hgb
 obtain⟨V,hV⟩:∃V:Nat→Bool,V=zcf m f vars:=⟨_,rfl⟩
 obtain⟨s,hs⟩:∃s:Nat,m.size=(s:Int):=⟨m.size.toNat,by have:=hp.gd.v.s1;omega⟩
 have me:zal.mk (s:Int) m.consts m.rels=m:=by rw[←hs]
 have hs1:1≤s:=by have:=hp.gd.v.s1;omega
 have hs6:s≤6:=by have:=hp.gd.v.s6;omega
 have hvl:vars.length≤6:=by have:=hp.nl;omega
 obtain⟨W,hW⟩:∃W:Nat→Nat,W=fun i=>s^i:=⟨_,rfl⟩
 have hW':=hW
 have hW0:W 0=1:=by rw[hW];rfl
 have hWs:∀i,(W i:Int)*(s:Int)=(W (i+1):Int):=fun i=>by rw[hW];simp only;rw[Nat.pow_succ];simp
 have hWl:∀i,i≤6→W i≤46656:=fun i h=>by
  rw[hW]
  exact Nat.le_trans (Nat.pow_le_pow_left hs6 i) (Nat.pow_le_pow_right (by omega) h)
 obtain⟨N,hN⟩:∃N,W vars.length=N:=⟨_,rfl⟩
 have hNl:N≤46656:=by rw[←hN];exact hWl _ hvl
 have hT':zcJ m f vars=(List.range N).map V:=by
  unfold zcJ
  rw[hV,←hN,hW,hs];rfl
 have hP0:=zbT V N
 rw[hT',←zcj V N]
 refine zc1 ?_
 have hpl:∀i,(zaP V N i).length=N:=fun i=>zbz V N i
 have kT:=Kp.mk hT
 have kW:=Kp.mk hWs
 have kl:=Kp.mk hWl
 clear hT hT' hW hWs hWl
 refine zah (N:=345) hm kT.out 41000 (lst [1000008,1000011]) ztq Tryd.func41 rfl rfl (by simp) (by kernel_rfl) ?_
 repeat'(first|refine rq fun _=>?_|simp only[go_sem,hs,Tryd.f41])
 refine zai hm kT.out 41000 (lst [1000008,1000011]) (ι:=za5 vars.length fun _=>True)
  ⟨fun q=>⟨frL [(2,.fz (.sl (vars.map enc))),(3,.ptr (41003,0) 0),(4,.ptr (41004,1) 0),(7,.fz (.i .i64 (W q.i:Nat))),(34,.fz (.i .i64 vars.length)),(35,.fz (.i .i64 q.i))],hpL [((41003,0),some ⟨[.fz (.i .i64 s),.fz (.sl (m.consts.map enc)),.fz (.sl (m.rels.map enc))],true,false⟩),((41004,1),some ⟨[.fz (.i .i64 f.kind),.fz (.s f.name.l),.fz (.sl (f.words.map enc)),.fz (.sl (f.subs.map enc))],true,false⟩)],2⟩,fun q=>vars.length-q.i⟩
  ⟨0,by omega,trivial⟩ (by kernel_rfl) ?_ ?_
 ·refine zag ?_ ?_ ?_<;>simp only[go_sem,hW0,hs]
  all_goals first|done|rfl|omega
 rintro⟨i,hi,_⟩
 try simp only at hi
 rcases Nat.lt_or_ge i vars.length with h1|h1
 ·have hws:=kW.out i
  have hwl:=kl.out (i+1) (by omega)
  repeat'(first|refine rq fun _=>?_|simp only[go_sem,h1,hws,Tryd.f41])
  refine⟨⟨i+1,by omega,trivial⟩,by simp only;omega,?_⟩
  refine zag ?_ ?_ ?_<;>simp only[go_sem,hws]
  all_goals first|done|rfl|omega
 obtain rfl:i=vars.length:=by omega
 have hVi:∀i,V i=(zcf m g vars i&&zcf m h vars i):=fun i=>by
  rw[hV]
  obtain⟨a,b,c,d⟩:=f
  simp only[zaz,zaW]at hk hb
  subst hk
  subst hb
  exact zxn
 obtain⟨A,hA⟩:∃A,zcJ m g vars=A:=⟨_,rfl⟩
 have hAl:A.length=N:=by rw[←hA,zc0];rw[←hN,hW',hs];rfl
 have hAg:∀i,i<N→A.getD i false=zcf m g vars i:=fun i h=>by rw[←hA];exact zcZ (by rw[hs];rw[←hN,hW']at h;exact h)
 obtain⟨B,hB⟩:∃B,zcJ m h vars=B:=⟨_,rfl⟩
 have hBl:B.length=N:=by rw[←hB,zc0];rw[←hN,hW',hs];rfl
 have hBg:∀i,i<N→B.getD i false=zcf m h vars i:=fun i h'=>by rw[←hB];exact zcZ (by rw[hs];rw[←hN,hW']at h';exact h')
 have kV:=Kp.mk hVi
 have kA:=Kp.mk hAg
 have kB:=Kp.mk hBg
 clear hVi hAg hBg hV hp hn hW'
 repeat'(first|refine zaK hm kT.out 41000 (lst [1000008,1000011]) zmt (by kernel_rfl) (by kernel_rfl) ?_|refine And.intro ?_ ?_|exact True.intro|refine zaB.i hga fun _=>?_|refine zaB.i hgb fun _=>?_|refine rq fun _=>?_|simp only[go_sem,hk,hb,hs,me,hA,hB,Nat.lt_irrefl,hN,zfm,zb3,←hP0,zmt,zad,zac,zab,zaa,Tryd.f41])
 refine zai hm kT.out 41000 (lst [1000008,1000011]) (ι:=za5 N fun _=>True)
  ⟨fun q=>⟨frL [(2,.fz (.sl (vars.map enc))),(3,.ptr (41003,0) 0),(4,.ptr (41004,1) 0),(8,.arr (41043,2) 1 0 N),(30,.fz (.sl (A.map enc))),(31,.fz (.sl (B.map enc))),(65,.arr (41043,2) 1 0 N),(66,.fz (.i .i64 N)),(67,.fz (.i .i64 q.i))],hpL [((41003,0),some ⟨[.fz (.i .i64 s),.fz (.sl (m.consts.map enc)),.fz (.sl (m.rels.map enc))],true,false⟩),((41004,1),some ⟨[.fz (.i .i64 f.kind),.fz (.s f.name.l),.fz (.sl (f.words.map enc)),.fz (.sl (f.subs.map enc))],true,false⟩),((41043,2),some ⟨zae ((zaP V N q.i).map enc),false,false⟩)],3⟩,fun q=>N-q.i⟩
  ⟨0,by omega,trivial⟩ (by kernel_rfl) ?_ ?_
 ·refine zag ?_ ?_ ?_<;>simp only[go_sem,hk,hb,hs]
  all_goals first|done|rfl|omega
 rintro⟨i,hi,_⟩
 try simp only at hi
 rcases Nat.lt_or_ge i N with h1|h1
 ·have hset:∀v,V i=v→(zae ((zaP V N i).map enc)).set i (.fz (.b v))=zae ((zaP V N (i+1)).map enc):=fun v hv=>by
   rw[←zck h1,←zaV,hv];rfl
  have hv:=kV.out i
  have ha:=kA.out i h1
  have hbb:=kB.out i h1
  have ha2:=zb1 (l:=A) (i:=i) (by omega)
  have hb2:=zb1 (l:=B) (i:=i) (by omega)
  rw[ha]at ha2
  rw[hbb]at hb2
  obtain⟨a,hae⟩:∃a,zcf m g vars i=a:=⟨_,rfl⟩
  rw[hae]at ha2 hv
  obtain⟨b,hbe⟩:∃b,zcf m h vars i=b:=⟨_,rfl⟩
  rw[hbe]at hb2 hv
  cases a<;>cases b
  all_goals
   have hset:=hset _ hv
   simp only[Bool.not_true,Bool.not_false,Bool.true_and,Bool.false_and,Bool.true_or,Bool.false_or]at hset
   repeat'(first|refine zaB.i (by rw[ha2];rfl) fun _=>?_|refine zaB.i (by rw[hb2];rfl) fun _=>?_|refine rq fun _=>?_|simp only[go_sem,h1,hpl,hk,hAl,hBl,ha2,hb2,Tryd.f41])
   refine⟨⟨i+1,by omega,trivial⟩,by simp only;omega,?_⟩
   refine zag ?_ ?_ ?_<;>simp only[go_sem,hset,hk,hb,hs]
   all_goals first|done|rfl|omega
 obtain rfl:i=N:=by omega
 repeat'(first|refine rq fun _=>?_|simp only[go_sem,Nat.lt_irrefl,hpl,Tryd.f41])
 exact⟨(41043,2),by simp only;omega,rfl,by simp only[go_sem]⟩
set_option maxHeartbeats 4000000 in
theorem zIh {n:Nat}(hT:zan Tryd.prog G (E3.add 41 (sp3 zcJ fun m f vs=>f.size<n∧zg8 m f vs))){m:zal}{f:Abs.zaf}{vars:List Str}(hn:f.size=n)(hp:zg8 m f vars)(hk:f.kind=6):zay Tryd.prog G 41 [.fz (enc m),.fz (enc f),.fz (enc vars)] (hpL []) 0 (fun d _ _=>D.val d=some (.fz (enc (zcJ m f vars)))):=by
 have hlen:=(zdm.1 hp.vk).2.2.2.2.2.1 (by rw[hk];decide)
 obtain⟨g,h,hb⟩:=zmy hlen
 have hq:¬isQ f.kind:=by rw[hk];unfold isQ;omega
 have hga:=zej hp hq (g:=g) (by rw[hb];simp)
 rw[hn]at hga
 have hgb:=zej hp hq (g:=h) (by rw[hb];simp)
 rw[hn]at hgb
 obtain⟨V,hV⟩:∃V:Nat→Bool,V=zcf m f vars:=⟨_,rfl⟩
 obtain⟨s,hs⟩:∃s:Nat,m.size=(s:Int):=⟨m.size.toNat,by have:=hp.gd.v.s1;omega⟩
 have me:zal.mk (s:Int) m.consts m.rels=m:=by rw[←hs]
 have hs1:1≤s:=by have:=hp.gd.v.s1;omega
 have hs6:s≤6:=by have:=hp.gd.v.s6;omega
 have hvl:vars.length≤6:=by have:=hp.nl;omega
 obtain⟨W,hW⟩:∃W:Nat→Nat,W=fun i=>s^i:=⟨_,rfl⟩
 have hW':=hW
 have hW0:W 0=1:=by rw[hW];rfl
 have hWs:∀i,(W i:Int)*(s:Int)=(W (i+1):Int):=fun i=>by rw[hW];simp only;rw[Nat.pow_succ];simp
 have hWl:∀i,i≤6→W i≤46656:=fun i h=>by
  rw[hW]
  exact Nat.le_trans (Nat.pow_le_pow_left hs6 i) (Nat.pow_le_pow_right (by omega) h)
 obtain⟨N,hN⟩:∃N,W vars.length=N:=⟨_,rfl⟩
 have hNl:N≤46656:=by rw[←hN];exact hWl _ hvl
 have hT':zcJ m f vars=(List.range N).map V:=by
  unfold zcJ
  rw[hV,←hN,hW,hs];rfl
 have hP0:=zbT V N
 rw[hT',←zcj V N]
 refine zc1 ?_
 have hpl:∀i,(zaP V N i).length=N:=fun i=>zbz V N i
 have kT:=Kp.mk hT
 have kW:=Kp.mk hWs
 have kl:=Kp.mk hWl
 clear hT hT' hW hWs hWl
 refine zah (N:=345) hm kT.out 41000 (lst [1000008,1000011]) ztq Tryd.func41 rfl rfl (by simp) (by kernel_rfl) ?_
 repeat'(first|refine rq fun _=>?_|simp only[go_sem,hs,Tryd.f41])
 refine zai hm kT.out 41000 (lst [1000008,1000011]) (ι:=za5 vars.length fun _=>True)
  ⟨fun q=>⟨frL [(2,.fz (.sl (vars.map enc))),(3,.ptr (41003,0) 0),(4,.ptr (41004,1) 0),(7,.fz (.i .i64 (W q.i:Nat))),(34,.fz (.i .i64 vars.length)),(35,.fz (.i .i64 q.i))],hpL [((41003,0),some ⟨[.fz (.i .i64 s),.fz (.sl (m.consts.map enc)),.fz (.sl (m.rels.map enc))],true,false⟩),((41004,1),some ⟨[.fz (.i .i64 f.kind),.fz (.s f.name.l),.fz (.sl (f.words.map enc)),.fz (.sl (f.subs.map enc))],true,false⟩)],2⟩,fun q=>vars.length-q.i⟩
  ⟨0,by omega,trivial⟩ (by kernel_rfl) ?_ ?_
 ·refine zag ?_ ?_ ?_<;>simp only[go_sem,hW0,hs]
  all_goals first|done|rfl|omega
 rintro⟨i,hi,_⟩
 try simp only at hi
 rcases Nat.lt_or_ge i vars.length with h1|h1
 ·have hws:=kW.out i
  have hwl:=kl.out (i+1) (by omega)
  repeat'(first|refine rq fun _=>?_|simp only[go_sem,h1,hws,Tryd.f41])
  refine⟨⟨i+1,by omega,trivial⟩,by simp only;omega,?_⟩
  refine zag ?_ ?_ ?_<;>simp only[go_sem,hws]
  all_goals first|done|rfl|omega
 obtain rfl:i=vars.length:=by omega
 have hVi:∀i,V i=(zcf m g vars i||zcf m h vars i):=fun i=>by
  rw[hV]
  obtain⟨a,b,c,d⟩:=f
  simp only[zaz,zaW]at hk hb
  subst hk
  subst hb
  exact zAA
 obtain⟨A,hA⟩:∃A,zcJ m g vars=A:=⟨_,rfl⟩
 have hAl:A.length=N:=by rw[←hA,zc0];rw[←hN,hW',hs];rfl
 have hAg:∀i,i<N→A.getD i false=zcf m g vars i:=fun i h=>by rw[←hA];exact zcZ (by rw[hs];rw[←hN,hW']at h;exact h)
 obtain⟨B,hB⟩:∃B,zcJ m h vars=B:=⟨_,rfl⟩
 have hBl:B.length=N:=by rw[←hB,zc0];rw[←hN,hW',hs];rfl
 have hBg:∀i,i<N→B.getD i false=zcf m h vars i:=fun i h'=>by rw[←hB];exact zcZ (by rw[hs];rw[←hN,hW']at h';exact h')
 have kV:=Kp.mk hVi
 have kA:=Kp.mk hAg
 have kB:=Kp.mk hBg
 clear hVi hAg hBg hV hp hn hW'
 repeat'(first|refine zaK hm kT.out 41000 (lst [1000008,1000011]) zmt (by kernel_rfl) (by kernel_rfl) ?_|refine And.intro ?_ ?_|exact True.intro|refine zaB.i hga fun _=>?_|refine zaB.i hgb fun _=>?_|refine rq fun _=>?_|simp only[go_sem,hk,hb,hs,me,hA,hB,Nat.lt_irrefl,hN,zfm,zb3,←hP0,zmt,zad,zac,zab,zaa,Tryd.f41])
 refine zai hm kT.out 41000 (lst [1000008,1000011]) (ι:=za5 N fun _=>True)
  ⟨fun q=>⟨frL [(2,.fz (.sl (vars.map enc))),(3,.ptr (41003,0) 0),(4,.ptr (41004,1) 0),(8,.arr (41043,2) 1 0 N),(30,.fz (.sl (A.map enc))),(31,.fz (.sl (B.map enc))),(65,.arr (41043,2) 1 0 N),(66,.fz (.i .i64 N)),(67,.fz (.i .i64 q.i))],hpL [((41003,0),some ⟨[.fz (.i .i64 s),.fz (.sl (m.consts.map enc)),.fz (.sl (m.rels.map enc))],true,false⟩),((41004,1),some ⟨[.fz (.i .i64 f.kind),.fz (.s f.name.l),.fz (.sl (f.words.map enc)),.fz (.sl (f.subs.map enc))],true,false⟩),((41043,2),some ⟨zae ((zaP V N q.i).map enc),false,false⟩)],3⟩,fun q=>N-q.i⟩
  ⟨0,by omega,trivial⟩ (by kernel_rfl) ?_ ?_
 ·refine zag ?_ ?_ ?_<;>simp only[go_sem,hk,hb,hs]
  all_goals first|done|rfl|omega
 rintro⟨i,hi,_⟩
 try simp only at hi
 rcases Nat.lt_or_ge i N with h1|h1
 ·have hset:∀v,V i=v→(zae ((zaP V N i).map enc)).set i (.fz (.b v))=zae ((zaP V N (i+1)).map enc):=fun v hv=>by
   rw[←zck h1,←zaV,hv];rfl
  have hv:=kV.out i
  have ha:=kA.out i h1
  have hbb:=kB.out i h1
  have ha2:=zb1 (l:=A) (i:=i) (by omega)
  have hb2:=zb1 (l:=B) (i:=i) (by omega)
  rw[ha]at ha2
  rw[hbb]at hb2
  obtain⟨a,hae⟩:∃a,zcf m g vars i=a:=⟨_,rfl⟩
  rw[hae]at ha2 hv
  obtain⟨b,hbe⟩:∃b,zcf m h vars i=b:=⟨_,rfl⟩
  rw[hbe]at hb2 hv
  cases a<;>cases b
  all_goals
   have hset:=hset _ hv
   simp only[Bool.not_true,Bool.not_false,Bool.true_and,Bool.false_and,Bool.true_or,Bool.false_or]at hset
   repeat'(first|refine zaB.i (by rw[ha2];rfl) fun _=>?_|refine zaB.i (by rw[hb2];rfl) fun _=>?_|refine rq fun _=>?_|simp only[go_sem,h1,hpl,hk,hAl,hBl,ha2,hb2,Tryd.f41])
   refine⟨⟨i+1,by omega,trivial⟩,by simp only;omega,?_⟩
   refine zag ?_ ?_ ?_<;>simp only[go_sem,hset,hk,hb,hs]
   all_goals first|done|rfl|omega
 obtain rfl:i=N:=by omega
 repeat'(first|refine rq fun _=>?_|simp only[go_sem,Nat.lt_irrefl,hpl,Tryd.f41])
 exact⟨(41043,2),by simp only;omega,rfl,by simp only[go_sem]⟩
set_option maxHeartbeats 4000000 in
theorem zIi {n:Nat}(hT:zan Tryd.prog G (E3.add 41 (sp3 zcJ fun m f vs=>f.size<n∧zg8 m f vs))){m:zal}{f:Abs.zaf}{vars:List Str}(hn:f.size=n)(hp:zg8 m f vars)(hk:f.kind=7):zay Tryd.prog G 41 [.fz (enc m),.fz (enc f),.fz (enc vars)] (hpL []) 0 (fun d _ _=>D.val d=some (.fz (enc (zcJ m f vars)))):=by
 have hlen:=(zdm.1 hp.vk).2.2.2.2.2.1 (by rw[hk];decide)
 obtain⟨g,h,hb⟩:=zmy hlen
 have hq:¬isQ f.kind:=by rw[hk];unfold isQ;omega
 have hga:=zej hp hq (g:=g) (by rw[hb];simp)
 rw[hn]at hga
 have hgb:=zej hp hq (g:=h) (by rw[hb];simp)
 rw[hn]at hgb
 obtain⟨V,hV⟩:∃V:Nat→Bool,V=zcf m f vars:=⟨_,rfl⟩
 obtain⟨s,hs⟩:∃s:Nat,m.size=(s:Int):=⟨m.size.toNat,by have:=hp.gd.v.s1;omega⟩
 have me:zal.mk (s:Int) m.consts m.rels=m:=by rw[←hs]
 have hs1:1≤s:=by have:=hp.gd.v.s1;omega
 have hs6:s≤6:=by have:=hp.gd.v.s6;omega
 have hvl:vars.length≤6:=by have:=hp.nl;omega
 obtain⟨W,hW⟩:∃W:Nat→Nat,W=fun i=>s^i:=⟨_,rfl⟩
 have hW':=hW
 have hW0:W 0=1:=by rw[hW];rfl
 have hWs:∀i,(W i:Int)*(s:Int)=(W (i+1):Int):=fun i=>by rw[hW];simp only;rw[Nat.pow_succ];simp
 have hWl:∀i,i≤6→W i≤46656:=fun i h=>by
  rw[hW]
  exact Nat.le_trans (Nat.pow_le_pow_left hs6 i) (Nat.pow_le_pow_right (by omega) h)
 obtain⟨N,hN⟩:∃N,W vars.length=N:=⟨_,rfl⟩
 have hNl:N≤46656:=by rw[←hN];exact hWl _ hvl
 have hT':zcJ m f vars=(List.range N).map V:=by
  unfold zcJ
  rw[hV,←hN,hW,hs];rfl
 have hP0:=zbT V N
 rw[hT',←zcj V N]
 refine zc1 ?_
 have hpl:∀i,(zaP V N i).length=N:=fun i=>zbz V N i
 have kT:=Kp.mk hT
 have kW:=Kp.mk hWs
 have kl:=Kp.mk hWl
 clear hT hT' hW hWs hWl
 refine zah (N:=345) hm kT.out 41000 (lst [1000008,1000011]) ztq Tryd.func41 rfl rfl (by simp) (by kernel_rfl) ?_
 repeat'(first|refine rq fun _=>?_|simp only[go_sem,hs,Tryd.f41])
 refine zai hm kT.out 41000 (lst [1000008,1000011]) (ι:=za5 vars.length fun _=>True)
  ⟨fun q=>⟨frL [(2,.fz (.sl (vars.map enc))),(3,.ptr (41003,0) 0),(4,.ptr (41004,1) 0),(7,.fz (.i .i64 (W q.i:Nat))),(34,.fz (.i .i64 vars.length)),(35,.fz (.i .i64 q.i))],hpL [((41003,0),some ⟨[.fz (.i .i64 s),.fz (.sl (m.consts.map enc)),.fz (.sl (m.rels.map enc))],true,false⟩),((41004,1),some ⟨[.fz (.i .i64 f.kind),.fz (.s f.name.l),.fz (.sl (f.words.map enc)),.fz (.sl (f.subs.map enc))],true,false⟩)],2⟩,fun q=>vars.length-q.i⟩
  ⟨0,by omega,trivial⟩ (by kernel_rfl) ?_ ?_
 ·refine zag ?_ ?_ ?_<;>simp only[go_sem,hW0,hs]
  all_goals first|done|rfl|omega
 rintro⟨i,hi,_⟩
 try simp only at hi
 rcases Nat.lt_or_ge i vars.length with h1|h1
 ·have hws:=kW.out i
  have hwl:=kl.out (i+1) (by omega)
  repeat'(first|refine rq fun _=>?_|simp only[go_sem,h1,hws,Tryd.f41])
  refine⟨⟨i+1,by omega,trivial⟩,by simp only;omega,?_⟩
  refine zag ?_ ?_ ?_<;>simp only[go_sem,hws]
  all_goals first|done|rfl|omega
 obtain rfl:i=vars.length:=by omega
 have hVi:∀i,V i=(!zcf m g vars i||zcf m h vars i):=fun i=>by
  rw[hV]
  obtain⟨a,b,c,d⟩:=f
  simp only[zaz,zaW]at hk hb
  subst hk
  subst hb
  exact zxp
 obtain⟨A,hA⟩:∃A,zcJ m g vars=A:=⟨_,rfl⟩
 have hAl:A.length=N:=by rw[←hA,zc0];rw[←hN,hW',hs];rfl
 have hAg:∀i,i<N→A.getD i false=zcf m g vars i:=fun i h=>by rw[←hA];exact zcZ (by rw[hs];rw[←hN,hW']at h;exact h)
 obtain⟨B,hB⟩:∃B,zcJ m h vars=B:=⟨_,rfl⟩
 have hBl:B.length=N:=by rw[←hB,zc0];rw[←hN,hW',hs];rfl
 have hBg:∀i,i<N→B.getD i false=zcf m h vars i:=fun i h'=>by rw[←hB];exact zcZ (by rw[hs];rw[←hN,hW']at h';exact h')
 have kV:=Kp.mk hVi
 have kA:=Kp.mk hAg
 have kB:=Kp.mk hBg
 clear hVi hAg hBg hV hp hn hW'
 repeat'(first|refine zaK hm kT.out 41000 (lst [1000008,1000011]) zmt (by kernel_rfl) (by kernel_rfl) ?_|refine And.intro ?_ ?_|exact True.intro|refine zaB.i hga fun _=>?_|refine zaB.i hgb fun _=>?_|refine rq fun _=>?_|simp only[go_sem,hk,hb,hs,me,hA,hB,Nat.lt_irrefl,hN,zfm,zb3,←hP0,zmt,zad,zac,zab,zaa,Tryd.f41])
 refine zai hm kT.out 41000 (lst [1000008,1000011]) (ι:=za5 N fun _=>True)
  ⟨fun q=>⟨frL [(2,.fz (.sl (vars.map enc))),(3,.ptr (41003,0) 0),(4,.ptr (41004,1) 0),(8,.arr (41043,2) 1 0 N),(30,.fz (.sl (A.map enc))),(31,.fz (.sl (B.map enc))),(65,.arr (41043,2) 1 0 N),(66,.fz (.i .i64 N)),(67,.fz (.i .i64 q.i))],hpL [((41003,0),some ⟨[.fz (.i .i64 s),.fz (.sl (m.consts.map enc)),.fz (.sl (m.rels.map enc))],true,false⟩),((41004,1),some ⟨[.fz (.i .i64 f.kind),.fz (.s f.name.l),.fz (.sl (f.words.map enc)),.fz (.sl (f.subs.map enc))],true,false⟩),((41043,2),some ⟨zae ((zaP V N q.i).map enc),false,false⟩)],3⟩,fun q=>N-q.i⟩
  ⟨0,by omega,trivial⟩ (by kernel_rfl) ?_ ?_
 ·refine zag ?_ ?_ ?_<;>simp only[go_sem,hk,hb,hs]
  all_goals first|done|rfl|omega
 rintro⟨i,hi,_⟩
 try simp only at hi
 rcases Nat.lt_or_ge i N with h1|h1
 ·have hset:∀v,V i=v→(zae ((zaP V N i).map enc)).set i (.fz (.b v))=zae ((zaP V N (i+1)).map enc):=fun v hv=>by
   rw[←zck h1,←zaV,hv];rfl
  have hv:=kV.out i
  have ha:=kA.out i h1
  have hbb:=kB.out i h1
  have ha2:=zb1 (l:=A) (i:=i) (by omega)
  have hb2:=zb1 (l:=B) (i:=i) (by omega)
  rw[ha]at ha2
  rw[hbb]at hb2
  obtain⟨a,hae⟩:∃a,zcf m g vars i=a:=⟨_,rfl⟩
  rw[hae]at ha2 hv
  obtain⟨b,hbe⟩:∃b,zcf m h vars i=b:=⟨_,rfl⟩
  rw[hbe]at hb2 hv
  cases a<;>cases b
  all_goals
   have hset:=hset _ hv
   simp only[Bool.not_true,Bool.not_false,Bool.true_and,Bool.false_and,Bool.true_or,Bool.false_or]at hset
   repeat'(first|refine zaB.i (by rw[ha2];rfl) fun _=>?_|refine zaB.i (by rw[hb2];rfl) fun _=>?_|refine rq fun _=>?_|simp only[go_sem,h1,hpl,hk,hAl,hBl,ha2,hb2,Tryd.f41])
   refine⟨⟨i+1,by omega,trivial⟩,by simp only;omega,?_⟩
   refine zag ?_ ?_ ?_<;>simp only[go_sem,hset,hk,hb,hs]
   all_goals first|done|rfl|omega
 obtain rfl:i=N:=by omega
 repeat'(first|refine rq fun _=>?_|simp only[go_sem,Nat.lt_irrefl,hpl,Tryd.f41])
 exact⟨(41043,2),by simp only;omega,rfl,by simp only[go_sem]⟩
end
end Go.Proofs.YtkkffhphodngkaaDoor
namespace Go.Proofs.YtkkffhphodngkaaDoor
open Go Go.Abs Go.Proofs
section
variable {G:Nat→List FD}
def zpd:Tv:=(.q 1 (.q 5 (.q 6 (.q 8 (.r 0 (.r 2 (.q 3 (.r 4 (.r 9 (.q 10 (.br [(7,(.br [(11,(.q 12 (.q 13 .leaf)))]))])))))))))))
set_option maxHeartbeats 4000000 in
theorem zIj {n:Nat}(hT:zan Tryd.prog G (E3.add 41 (sp3 zcJ fun m f vs=>f.size<n∧zg8 m f vs))){m:zal}{f:Abs.zaf}{vars:List Str}(hn:f.size=n)(hp:zg8 m f vars)(hk:f.kind=8):zay Tryd.prog G 41 [.fz (enc m),.fz (enc f),.fz (enc vars)] (hpL []) 0 (fun d _ _=>D.val d=some (.fz (enc (zcJ m f vars)))):=by
 have hlen:=(zdm.1 hp.vk).2.2.2.2.1 (by rw[hk];decide)
 obtain⟨g,hb⟩:=zoL hlen
 have hga:=zvV hp (by rw[hk];unfold isQ;omega) (g:=g) (by rw[hb];simp)
 rw[hn]at hga
 obtain⟨V,hV⟩:∃V:Nat→Bool,V=zcf m f vars:=⟨_,rfl⟩
 obtain⟨s,hs⟩:∃s:Nat,m.size=(s:Int):=⟨m.size.toNat,by have:=hp.gd.v.s1;omega⟩
 have me:zal.mk (s:Int) m.consts m.rels=m:=by rw[←hs]
 have hs1:1≤s:=by have:=hp.gd.v.s1;omega
 have hs6:s≤6:=by have:=hp.gd.v.s6;omega
 have hvl:vars.length≤6:=by have:=hp.nl;omega
 obtain⟨W,hW⟩:∃W:Nat→Nat,W=fun i=>s^i:=⟨_,rfl⟩
 have hW':=hW
 have hW0:W 0=1:=by rw[hW];rfl
 have hWs:∀i,(W i:Int)*(s:Int)=(W (i+1):Int):=fun i=>by rw[hW];simp only;rw[Nat.pow_succ];simp
 have hWl:∀i,i≤6→W i≤46656:=fun i h=>by
  rw[hW]
  exact Nat.le_trans (Nat.pow_le_pow_left hs6 i) (Nat.pow_le_pow_right (by omega) h)
 obtain⟨N,hN⟩:∃N,W vars.length=N:=⟨_,rfl⟩
 have hNl:N≤46656:=by rw[←hN];exact hWl _ hvl
 have hT':zcJ m f vars=(List.range N).map V:=by
  unfold zcJ
  rw[hV,←hN,hW,hs];rfl
 have hP0:=zbT V N
 rw[hT',←zcj V N]
 refine zc1 ?_
 have hpl:∀i,(zaP V N i).length=N:=fun i=>zbz V N i
 have kT:=Kp.mk hT
 have kW:=Kp.mk hWs
 have kl:=Kp.mk hWl
 clear hT hT' hW hWs hWl
 refine zah (N:=345) hm kT.out 41000 (lsw [285,289] [1000076]) ztq Tryd.func41 rfl rfl (by simp) (by kernel_rfl) ?_
 repeat'(first|refine rq fun _=>?_|simp only[go_sem,hs,Tryd.f41])
 refine zbD (zcW (id:=(41003,0)) (t:=3) (b:=true) (ys:=[.i .i64 s,.sl (m.consts.map enc),.sl (m.rels.map enc)]) (by simp only[go_sem]) (by simp only[go_sem])) ?_
 refine zbD (zcW (id:=(41004,1)) (t:=4) (b:=true) (ys:=[.i .i64 f.kind,.s f.name.l,.sl (f.words.map enc),.sl (f.subs.map enc)]) (by simp only[go_sem]) (by simp only[go_sem])) ?_
 refine zai hm kT.out 41000 (lsw [285,289] [1000076]) (ι:=za5 vars.length fun _=>True)
  ⟨fun q=>⟨frL [(2,.fz (.sl (vars.map enc))),(3,.rp [.i .i64 s,.sl (m.consts.map enc),.sl (m.rels.map enc)]),(4,.rp [.i .i64 f.kind,.s f.name.l,.sl (f.words.map enc),.sl (f.subs.map enc)]),(7,.fz (.i .i64 (W q.i:Nat))),(34,.fz (.i .i64 vars.length)),(35,.fz (.i .i64 q.i))],hpL [],2⟩,fun q=>vars.length-q.i⟩
  ⟨0,by omega,trivial⟩ (by kernel_rfl) ?_ ?_
 ·refine zag ?_ ?_ ?_<;>simp only[go_sem,hW0,hs]
  all_goals first|done|rfl|omega
 rintro⟨i,hi,_⟩
 try simp only at hi
 rcases Nat.lt_or_ge i vars.length with h1|h1
 ·have hws:=kW.out i
  have hwl:=kl.out (i+1) (by omega)
  repeat'(first|refine rq fun _=>?_|simp only[go_sem,h1,hws,Tryd.f41])
  refine⟨⟨i+1,by omega,trivial⟩,by simp only;omega,?_⟩
  refine zag ?_ ?_ ?_<;>simp only[go_sem,hws]
  all_goals first|done|rfl|omega
 obtain rfl:i=vars.length:=by omega
 obtain⟨R,hR⟩:∃R:Nat→Bool,R=zcf m g (vars++[f.name]):=⟨_,rfl⟩
 obtain⟨AA,hAA⟩:∃AA:Nat→Nat→Bool,AA=fun i d=>(List.range d).all fun e=>R (i*s+e):=⟨_,rfl⟩
 have hA0:∀i,AA i 0=true:=fun i=>by rw[hAA];rfl
 have hAs:∀i d,AA i (d+1)=(AA i d&&R (i*s+d)):=fun i d=>by rw[hAA];simp only[List.range_succ,List.all_append,List.all_cons,List.all_nil,Bool.and_true]
 obtain⟨SS,hSS⟩:∃SS:Nat→Nat→Bool,SS=fun i d=>(List.range d).any fun e=>R (i*s+e):=⟨_,rfl⟩
 have hS0:∀i,SS i 0=false:=fun i=>by rw[hSS];rfl
 have hSs:∀i d,SS i (d+1)=(SS i d||R (i*s+d)):=fun i d=>by rw[hSS];simp only[List.range_succ,List.any_append,List.any_cons,List.any_nil,Bool.or_false]
 have hms:m.size.toNat=s:=by rw[hs];rfl
 have hVi:∀i,V i=AA i s:=fun i=>by
  rw[hV,hAA,hR]
  obtain⟨a,b,c,d⟩:=f
  simp only[zaz,zaW]at hk hb
  subst hk
  subst hb
  rw[zxm,hms]
  rfl
 obtain⟨A,hA⟩:∃A,zcJ m g (vars++[f.name])=A:=⟨_,rfl⟩
 have hAl:A.length=N*s:=by rw[←hA,zc0,hms,←hN,hW',List.length_append,List.length_cons,List.length_nil,Nat.pow_succ]
 have hAg:∀x,x<N*s→A.getD x false=R x:=fun x h=>by
  rw[←hA,hR]
  refine zcZ ?_
  rw[hms,List.length_append,List.length_cons,List.length_nil,Nat.pow_succ]
  rw[←hN,hW']at h
  exact h
 have kV:=Kp.mk hVi
 have kA:=Kp.mk hAg
 have kA0:=Kp.mk hA0
 have kAs:=Kp.mk hAs
 have kS0:=Kp.mk hS0
 have kSs:=Kp.mk hSs
 clear hVi hAg hV hp hn hW' hA0 hAs hS0 hSs hAA hSS hR
 repeat'(first|refine zaK hm kT.out 41000 (lsw [285,289] [1000076]) zpd (by kernel_rfl) (by kernel_rfl) ?_|refine And.intro ?_ ?_|exact True.intro|refine zaB.i (zaL (by first|omega|(simp only[List.length_map,List.length_append,List.length_cons,List.length_nil];omega)) (by decide)) fun _=>?_|refine zaB.i hga fun _=>?_|refine rq fun _=>?_|simp only[go_sem,hk,hb,hs,me,hA,Nat.lt_irrefl,hN,zfm,zb3,←hP0,zpd,List.nil_append,zad,zac,zab,zaa,Tryd.f41])
 refine zai hm kT.out 41000 (lsw [285,289] [1000076]) (ι:=zbG N 3 fun _=>True)
  ⟨fun q=>⟨frL [(2,.fz (.sl (vars.map enc))),(3,.rp [.i .i64 s,.sl (m.consts.map enc),.sl (m.rels.map enc)]),(4,.rp [.i .i64 f.kind,.s f.name.l,.sl (f.words.map enc),.sl (f.subs.map enc)]),(8,.arr (41043,2) 1 0 N),(25,.fz (.sl (A.map enc))),(291,.arr (41043,2) 1 0 N),(292,.fz (.i .i64 N)),(293,.fz (.i .i64 q.i))],hpL [((41043,2),some ⟨zae ((zaP V N q.i).map enc),false,false⟩)],q.m⟩,fun q=>N-q.i⟩
  ⟨0,12,by omega,by omega,trivial⟩ (by kernel_rfl) ?_ ?_
 ·refine zag ?_ ?_ ?_<;>simp only[go_sem,hk,hb,hs]
  all_goals first|done|rfl|omega
 rintro⟨i,n,hi,hn,_⟩
 try simp only at hi hn
 rcases Nat.lt_or_ge i N with h1|h1
 rotate_left
 ·obtain rfl:i=N:=by omega
  repeat'(first|refine rq fun _=>?_|simp only[go_sem,Nat.lt_irrefl,hpl,Tryd.f41])
  exact⟨(41043,2),by simp only;omega,rfl,by simp only[go_sem]⟩
 have hset:∀v,V i=v→(zae ((zaP V N i).map enc)).set i (.fz (.b v))=zae ((zaP V N (i+1)).map enc):=fun v hv=>by
  rw[←zck h1,←zaV,hv];rfl
 have hv:=kV.out i
 have a0:=kA0.out i
 have s0:=kS0.out i
 repeat'(first|refine rq fun _=>?_|simp only[go_sem,h1,hs,hk,hb,Tryd.f41])
 refine zai hm kT.out 41000 (lsw [285,289] [1000076]) (ι:=zbG s 3 fun _=>True)
  ⟨fun q=>⟨frL [(2,.fz (.sl (vars.map enc))),(3,.rp [.i .i64 s,.sl (m.consts.map enc),.sl (m.rels.map enc)]),(4,.rp [.i .i64 f.kind,.s f.name.l,.sl (f.words.map enc),.sl (f.subs.map enc)]),(8,.arr (41043,2) 1 0 N),(25,.fz (.sl (A.map enc))),(26,.fz (.i .i64 i)),(27,.fz (.b (AA i q.i))),(28,.fz (.b (SS i q.i))),(29,.fz (.i .i64 q.i)),(291,.arr (41043,2) 1 0 N),(292,.fz (.i .i64 N)),(293,.fz (.i .i64 i))],hpL [((41043,2),some ⟨zae ((zaP V N i).map enc),false,false⟩)],q.m⟩,fun q=>s-q.i⟩
  ⟨0,n,by omega,by omega,trivial⟩ (by kernel_rfl) ?_ ?_
 ·refine zag ?_ ?_ ?_<;>simp only[go_sem,hk,hb,hs,a0,s0]
  all_goals first|done|rfl|omega
 rintro⟨d,n2,hd,hn2,_⟩
 try simp only at hd hn2
 rcases Nat.lt_or_ge d s with h2|h2
 ·have aas:=kAs.out i d
  have ss:=kSs.out i d
  obtain⟨y,hy⟩:∃y,i*s=y:=⟨_,rfl⟩
  have hyl:y+s≤N*s:=by rw[←hy];have:=Nat.mul_le_mul_right s (show i+1≤N by omega);rw[Nat.add_mul,Nat.one_mul]at this;exact this
  have hNs:N*s≤279936:=Nat.le_trans (Nat.mul_le_mul hNl hs6) (by decide)
  have hiy:(i:Int)*(s:Int)=(y:Int):=by rw[←hy];simp
  rw[hy]at aas ss
  obtain⟨x,hx⟩:∃x,y+d=x:=⟨_,rfl⟩
  have hix:(y:Int)+(d:Int)=(x:Int):=by omega
  have hxl:x<A.length:=by omega
  have hxg:=kA.out x (by omega)
  have hgd:=zb1 hxl
  rw[hxg]at hgd
  rw[hx]at aas ss
  obtain⟨r,hr⟩:∃r,R x=r:=⟨_,rfl⟩
  rw[hr]at aas ss hgd
  obtain⟨P,hP⟩:∃P,AA i d=P:=⟨_,rfl⟩
  obtain⟨Q,hQ⟩:∃Q,SS i d=Q:=⟨_,rfl⟩
  rw[hP]at aas
  rw[hQ]at ss
  cases P<;>cases Q<;>cases r
  all_goals
   simp only[Bool.and_true,Bool.and_false,Bool.true_and,Bool.false_and,Bool.or_true,Bool.or_false,Bool.true_or,Bool.false_or]at aas ss
   repeat'(first|refine zaB.i (by rw[hgd];rfl) fun _=>?_|refine rq fun _=>?_|simp only[go_sem,h2,hs,hP,hQ,hiy,hix,hgd,hxl,Tryd.f41])
   refine⟨⟨d+1,n2,by omega,by omega,trivial⟩,by simp only;omega,?_⟩
   refine zag ?_ ?_ ?_<;>simp only[go_sem,aas,ss,hk,hb,hs]
   all_goals first|done|rfl|omega
 obtain rfl:d=s:=by omega
 obtain⟨P,hP⟩:∃P,AA i d=P:=⟨_,rfl⟩
 obtain⟨Q,hQ⟩:∃Q,SS i d=Q:=⟨_,rfl⟩
 rw[hP]at hv
 have hset:=hset _ hv
 cases P<;>cases Q
 all_goals
  repeat'(first|refine rq fun _=>?_|simp only[go_sem,Nat.lt_irrefl,hpl,hs,hk,hP,hQ,h1,Tryd.f41])
  refine⟨⟨i+1,n2,by omega,by omega,trivial⟩,by simp only;omega,?_⟩
  refine zag ?_ ?_ ?_<;>simp only[go_sem,hset,hk,hb,hs]
  all_goals first|done|rfl|omega
set_option maxHeartbeats 4000000 in
theorem zIk {n:Nat}(hT:zan Tryd.prog G (E3.add 41 (sp3 zcJ fun m f vs=>f.size<n∧zg8 m f vs))){m:zal}{f:Abs.zaf}{vars:List Str}(hn:f.size=n)(hp:zg8 m f vars)(hk:f.kind=9):zay Tryd.prog G 41 [.fz (enc m),.fz (enc f),.fz (enc vars)] (hpL []) 0 (fun d _ _=>D.val d=some (.fz (enc (zcJ m f vars)))):=by
 have hlen:=(zdm.1 hp.vk).2.2.2.2.1 (by rw[hk];decide)
 obtain⟨g,hb⟩:=zoL hlen
 have hga:=zvV hp (by rw[hk];unfold isQ;omega) (g:=g) (by rw[hb];simp)
 rw[hn]at hga
 obtain⟨V,hV⟩:∃V:Nat→Bool,V=zcf m f vars:=⟨_,rfl⟩
 obtain⟨s,hs⟩:∃s:Nat,m.size=(s:Int):=⟨m.size.toNat,by have:=hp.gd.v.s1;omega⟩
 have me:zal.mk (s:Int) m.consts m.rels=m:=by rw[←hs]
 have hs1:1≤s:=by have:=hp.gd.v.s1;omega
 have hs6:s≤6:=by have:=hp.gd.v.s6;omega
 have hvl:vars.length≤6:=by have:=hp.nl;omega
 obtain⟨W,hW⟩:∃W:Nat→Nat,W=fun i=>s^i:=⟨_,rfl⟩
 have hW':=hW
 have hW0:W 0=1:=by rw[hW];rfl
 have hWs:∀i,(W i:Int)*(s:Int)=(W (i+1):Int):=fun i=>by rw[hW];simp only;rw[Nat.pow_succ];simp
 have hWl:∀i,i≤6→W i≤46656:=fun i h=>by
  rw[hW]
  exact Nat.le_trans (Nat.pow_le_pow_left hs6 i) (Nat.pow_le_pow_right (by omega) h)
 obtain⟨N,hN⟩:∃N,W vars.length=N:=⟨_,rfl⟩
 have hNl:N≤46656:=by rw[←hN];exact hWl _ hvl
 have hT':zcJ m f vars=(List.range N).map V:=by
  unfold zcJ
  rw[hV,←hN,hW,hs];rfl
 have hP0:=zbT V N
 rw[hT',←zcj V N]
 refine zc1 ?_
 have hpl:∀i,(zaP V N i).length=N:=fun i=>zbz V N i
 have kT:=Kp.mk hT
 have kW:=Kp.mk hWs
 have kl:=Kp.mk hWl
 clear hT hT' hW hWs hWl
 refine zah (N:=345) hm kT.out 41000 (lsw [285,289] [1000076]) ztq Tryd.func41 rfl rfl (by simp) (by kernel_rfl) ?_
 repeat'(first|refine rq fun _=>?_|simp only[go_sem,hs,Tryd.f41])
 refine zbD (zcW (id:=(41003,0)) (t:=3) (b:=true) (ys:=[.i .i64 s,.sl (m.consts.map enc),.sl (m.rels.map enc)]) (by simp only[go_sem]) (by simp only[go_sem])) ?_
 refine zbD (zcW (id:=(41004,1)) (t:=4) (b:=true) (ys:=[.i .i64 f.kind,.s f.name.l,.sl (f.words.map enc),.sl (f.subs.map enc)]) (by simp only[go_sem]) (by simp only[go_sem])) ?_
 refine zai hm kT.out 41000 (lsw [285,289] [1000076]) (ι:=za5 vars.length fun _=>True)
  ⟨fun q=>⟨frL [(2,.fz (.sl (vars.map enc))),(3,.rp [.i .i64 s,.sl (m.consts.map enc),.sl (m.rels.map enc)]),(4,.rp [.i .i64 f.kind,.s f.name.l,.sl (f.words.map enc),.sl (f.subs.map enc)]),(7,.fz (.i .i64 (W q.i:Nat))),(34,.fz (.i .i64 vars.length)),(35,.fz (.i .i64 q.i))],hpL [],2⟩,fun q=>vars.length-q.i⟩
  ⟨0,by omega,trivial⟩ (by kernel_rfl) ?_ ?_
 ·refine zag ?_ ?_ ?_<;>simp only[go_sem,hW0,hs]
  all_goals first|done|rfl|omega
 rintro⟨i,hi,_⟩
 try simp only at hi
 rcases Nat.lt_or_ge i vars.length with h1|h1
 ·have hws:=kW.out i
  have hwl:=kl.out (i+1) (by omega)
  repeat'(first|refine rq fun _=>?_|simp only[go_sem,h1,hws,Tryd.f41])
  refine⟨⟨i+1,by omega,trivial⟩,by simp only;omega,?_⟩
  refine zag ?_ ?_ ?_<;>simp only[go_sem,hws]
  all_goals first|done|rfl|omega
 obtain rfl:i=vars.length:=by omega
 obtain⟨R,hR⟩:∃R:Nat→Bool,R=zcf m g (vars++[f.name]):=⟨_,rfl⟩
 obtain⟨AA,hAA⟩:∃AA:Nat→Nat→Bool,AA=fun i d=>(List.range d).all fun e=>R (i*s+e):=⟨_,rfl⟩
 have hA0:∀i,AA i 0=true:=fun i=>by rw[hAA];rfl
 have hAs:∀i d,AA i (d+1)=(AA i d&&R (i*s+d)):=fun i d=>by rw[hAA];simp only[List.range_succ,List.all_append,List.all_cons,List.all_nil,Bool.and_true]
 obtain⟨SS,hSS⟩:∃SS:Nat→Nat→Bool,SS=fun i d=>(List.range d).any fun e=>R (i*s+e):=⟨_,rfl⟩
 have hS0:∀i,SS i 0=false:=fun i=>by rw[hSS];rfl
 have hSs:∀i d,SS i (d+1)=(SS i d||R (i*s+d)):=fun i d=>by rw[hSS];simp only[List.range_succ,List.any_append,List.any_cons,List.any_nil,Bool.or_false]
 have hms:m.size.toNat=s:=by rw[hs];rfl
 have hVi:∀i,V i=SS i s:=fun i=>by
  rw[hV,hSS,hR]
  obtain⟨a,b,c,d⟩:=f
  simp only[zaz,zaW]at hk hb
  subst hk
  subst hb
  rw[zxo,hms]
  rfl
 obtain⟨A,hA⟩:∃A,zcJ m g (vars++[f.name])=A:=⟨_,rfl⟩
 have hAl:A.length=N*s:=by rw[←hA,zc0,hms,←hN,hW',List.length_append,List.length_cons,List.length_nil,Nat.pow_succ]
 have hAg:∀x,x<N*s→A.getD x false=R x:=fun x h=>by
  rw[←hA,hR]
  refine zcZ ?_
  rw[hms,List.length_append,List.length_cons,List.length_nil,Nat.pow_succ]
  rw[←hN,hW']at h
  exact h
 have kV:=Kp.mk hVi
 have kA:=Kp.mk hAg
 have kA0:=Kp.mk hA0
 have kAs:=Kp.mk hAs
 have kS0:=Kp.mk hS0
 have kSs:=Kp.mk hSs
 clear hVi hAg hV hp hn hW' hA0 hAs hS0 hSs hAA hSS hR
 repeat'(first|refine zaK hm kT.out 41000 (lsw [285,289] [1000076]) zpd (by kernel_rfl) (by kernel_rfl) ?_|refine And.intro ?_ ?_|exact True.intro|refine zaB.i (zaL (by first|omega|(simp only[List.length_map,List.length_append,List.length_cons,List.length_nil];omega)) (by decide)) fun _=>?_|refine zaB.i hga fun _=>?_|refine rq fun _=>?_|simp only[go_sem,hk,hb,hs,me,hA,Nat.lt_irrefl,hN,zfm,zb3,←hP0,zpd,List.nil_append,zad,zac,zab,zaa,Tryd.f41])
 refine zai hm kT.out 41000 (lsw [285,289] [1000076]) (ι:=zbG N 3 fun _=>True)
  ⟨fun q=>⟨frL [(2,.fz (.sl (vars.map enc))),(3,.rp [.i .i64 s,.sl (m.consts.map enc),.sl (m.rels.map enc)]),(4,.rp [.i .i64 f.kind,.s f.name.l,.sl (f.words.map enc),.sl (f.subs.map enc)]),(8,.arr (41043,2) 1 0 N),(25,.fz (.sl (A.map enc))),(291,.arr (41043,2) 1 0 N),(292,.fz (.i .i64 N)),(293,.fz (.i .i64 q.i))],hpL [((41043,2),some ⟨zae ((zaP V N q.i).map enc),false,false⟩)],q.m⟩,fun q=>N-q.i⟩
  ⟨0,12,by omega,by omega,trivial⟩ (by kernel_rfl) ?_ ?_
 ·refine zag ?_ ?_ ?_<;>simp only[go_sem,hk,hb,hs]
  all_goals first|done|rfl|omega
 rintro⟨i,n,hi,hn,_⟩
 try simp only at hi hn
 rcases Nat.lt_or_ge i N with h1|h1
 rotate_left
 ·obtain rfl:i=N:=by omega
  repeat'(first|refine rq fun _=>?_|simp only[go_sem,Nat.lt_irrefl,hpl,Tryd.f41])
  exact⟨(41043,2),by simp only;omega,rfl,by simp only[go_sem]⟩
 have hset:∀v,V i=v→(zae ((zaP V N i).map enc)).set i (.fz (.b v))=zae ((zaP V N (i+1)).map enc):=fun v hv=>by
  rw[←zck h1,←zaV,hv];rfl
 have hv:=kV.out i
 have a0:=kA0.out i
 have s0:=kS0.out i
 repeat'(first|refine rq fun _=>?_|simp only[go_sem,h1,hs,hk,hb,Tryd.f41])
 refine zai hm kT.out 41000 (lsw [285,289] [1000076]) (ι:=zbG s 3 fun _=>True)
  ⟨fun q=>⟨frL [(2,.fz (.sl (vars.map enc))),(3,.rp [.i .i64 s,.sl (m.consts.map enc),.sl (m.rels.map enc)]),(4,.rp [.i .i64 f.kind,.s f.name.l,.sl (f.words.map enc),.sl (f.subs.map enc)]),(8,.arr (41043,2) 1 0 N),(25,.fz (.sl (A.map enc))),(26,.fz (.i .i64 i)),(27,.fz (.b (AA i q.i))),(28,.fz (.b (SS i q.i))),(29,.fz (.i .i64 q.i)),(291,.arr (41043,2) 1 0 N),(292,.fz (.i .i64 N)),(293,.fz (.i .i64 i))],hpL [((41043,2),some ⟨zae ((zaP V N i).map enc),false,false⟩)],q.m⟩,fun q=>s-q.i⟩
  ⟨0,n,by omega,by omega,trivial⟩ (by kernel_rfl) ?_ ?_
 ·refine zag ?_ ?_ ?_<;>simp only[go_sem,hk,hb,hs,a0,s0]
  all_goals first|done|rfl|omega
 rintro⟨d,n2,hd,hn2,_⟩
 try simp only at hd hn2
 rcases Nat.lt_or_ge d s with h2|h2
 ·have aas:=kAs.out i d
  have ss:=kSs.out i d
  obtain⟨y,hy⟩:∃y,i*s=y:=⟨_,rfl⟩
  have hyl:y+s≤N*s:=by rw[←hy];have:=Nat.mul_le_mul_right s (show i+1≤N by omega);rw[Nat.add_mul,Nat.one_mul]at this;exact this
  have hNs:N*s≤279936:=Nat.le_trans (Nat.mul_le_mul hNl hs6) (by decide)
  have hiy:(i:Int)*(s:Int)=(y:Int):=by rw[←hy];simp
  rw[hy]at aas ss
  obtain⟨x,hx⟩:∃x,y+d=x:=⟨_,rfl⟩
  have hix:(y:Int)+(d:Int)=(x:Int):=by omega
  have hxl:x<A.length:=by omega
  have hxg:=kA.out x (by omega)
  have hgd:=zb1 hxl
  rw[hxg]at hgd
  rw[hx]at aas ss
  obtain⟨r,hr⟩:∃r,R x=r:=⟨_,rfl⟩
  rw[hr]at aas ss hgd
  obtain⟨P,hP⟩:∃P,AA i d=P:=⟨_,rfl⟩
  obtain⟨Q,hQ⟩:∃Q,SS i d=Q:=⟨_,rfl⟩
  rw[hP]at aas
  rw[hQ]at ss
  cases P<;>cases Q<;>cases r
  all_goals
   simp only[Bool.and_true,Bool.and_false,Bool.true_and,Bool.false_and,Bool.or_true,Bool.or_false,Bool.true_or,Bool.false_or]at aas ss
   repeat'(first|refine zaB.i (by rw[hgd];rfl) fun _=>?_|refine rq fun _=>?_|simp only[go_sem,h2,hs,hP,hQ,hiy,hix,hgd,hxl,Tryd.f41])
   refine⟨⟨d+1,n2,by omega,by omega,trivial⟩,by simp only;omega,?_⟩
   refine zag ?_ ?_ ?_<;>simp only[go_sem,aas,ss,hk,hb,hs]
   all_goals first|done|rfl|omega
 obtain rfl:d=s:=by omega
 obtain⟨P,hP⟩:∃P,AA i d=P:=⟨_,rfl⟩
 obtain⟨Q,hQ⟩:∃Q,SS i d=Q:=⟨_,rfl⟩
 rw[hQ]at hv
 have hset:=hset _ hv
 cases P<;>cases Q
 all_goals
  repeat'(first|refine rq fun _=>?_|simp only[go_sem,Nat.lt_irrefl,hpl,hs,hk,hP,hQ,h1,Tryd.f41])
  refine⟨⟨i+1,n2,by omega,by omega,trivial⟩,by simp only;omega,?_⟩
  refine zag ?_ ?_ ?_<;>simp only[go_sem,hset,hk,hb,hs]
  all_goals first|done|rfl|omega
end
end Go.Proofs.YtkkffhphodngkaaDoor
namespace Go.Proofs.YtkkffhphodngkaaDoor
open Go Go.Abs Go.Proofs
section
variable {G:Nat→List FD}
def zpc:Tv:=(.q 0 (.q 1 (.q 2 (.q 3 (.q 4 (.q 5 (.q 6 (.q 7 (.q 8 .leaf)))))))))
def zpb:Tv:=(.q 0 (.q 1 (.q 2 (.q 3 (.q 4 (.q 5 (.q 6 (.q 7 (.q 8 (.q 9 (.br [(10,.leaf)])))))))))))
set_option maxHeartbeats 4000000 in
theorem zIe {n:Nat}(hT:zan Tryd.prog G (E3.add 41 (sp3 zcJ fun m f vs=>f.size<n∧zg8 m f vs))){m:zal}{f:Abs.zaf}{vars:List Str}(hn:f.size=n)(hp:zg8 m f vars)(hk:f.kind=3):zay Tryd.prog G 41 [.fz (enc m),.fz (enc f),.fz (enc vars)] (hpL []) 0 (fun d _ _=>D.val d=some (.fz (enc (zcJ m f vars)))):=by
 have hwl:f.words.length≤3:=by have h:=zdm.1 hp.vk;have:=h.2.2.2.1 hk;omega
 have hwl2:f.words.length=2:=(zdm.1 hp.vk).2.2.2.1 hk
 have hcs:=hp.cs
 have hcv:=hp.gd.cv
 have hlc:=hp.gd.v.lc
 obtain⟨V,hV⟩:∃V:Nat→Bool,V=zcf m f vars:=⟨_,rfl⟩
 obtain⟨s,hs⟩:∃s:Nat,m.size=(s:Int):=⟨m.size.toNat,by have:=hp.gd.v.s1;omega⟩
 have me:zal.mk (s:Int) m.consts m.rels=m:=by rw[←hs]
 have hs1:1≤s:=by have:=hp.gd.v.s1;omega
 have hs6:s≤6:=by have:=hp.gd.v.s6;omega
 have hvl:vars.length≤6:=by have:=hp.nl;omega
 obtain⟨W,hW⟩:∃W:Nat→Nat,W=fun i=>s^i:=⟨_,rfl⟩
 have hW0:W 0=1:=by rw[hW];rfl
 have hWs:∀i,(W i:Int)*(s:Int)=(W (i+1):Int):=fun i=>by rw[hW];simp only;rw[Nat.pow_succ];simp
 have hWl:∀i,i≤6→W i≤46656:=fun i h=>by
  rw[hW]
  exact Nat.le_trans (Nat.pow_le_pow_left hs6 i) (Nat.pow_le_pow_right (by omega) h)
 obtain⟨N,hN⟩:∃N,W vars.length=N:=⟨_,rfl⟩
 have hNl:N≤46656:=by rw[←hN];exact hWl _ hvl
 have hT':zcJ m f vars=(List.range N).map V:=by
  unfold zcJ
  rw[hV,←hN,hW,hs];rfl
 have hP0:=zbT V N
 rw[hT',←zcj V N]
 refine zc1 ?_
 have hpl:∀i,(zaP V N i).length=N:=fun i=>zbz V N i
 have kT:=Kp.mk hT
 have kW:=Kp.mk hWs
 have kl:=Kp.mk hWl
 clear hT hT' hW hWs hWl
 refine zah (N:=345) hm kT.out 41000 (lsw [219] [1000061,1000069]) ztq Tryd.func41 rfl rfl (by simp) (by kernel_rfl) ?_
 repeat'(first|refine rq fun _=>?_|simp only[go_sem,hs,Tryd.f41])
 refine zbD (zcW (id:=(41003,0)) (t:=3) (b:=true) (ys:=[.i .i64 s,.sl (m.consts.map enc),.sl (m.rels.map enc)]) (by simp only[go_sem]) (by simp only[go_sem])) ?_
 refine zbD (zcW (id:=(41004,1)) (t:=4) (b:=true) (ys:=[.i .i64 f.kind,.s f.name.l,.sl (f.words.map enc),.sl (f.subs.map enc)]) (by simp only[go_sem]) (by simp only[go_sem])) ?_
 refine zai hm kT.out 41000 (lsw [219] [1000061,1000069]) (ι:=za5 vars.length fun _=>True)
  ⟨fun q=>⟨frL [(2,.fz (.sl (vars.map enc))),(3,.rp [.i .i64 s,.sl (m.consts.map enc),.sl (m.rels.map enc)]),(4,.rp [.i .i64 f.kind,.s f.name.l,.sl (f.words.map enc),.sl (f.subs.map enc)]),(7,.fz (.i .i64 (W q.i:Nat))),(34,.fz (.i .i64 vars.length)),(35,.fz (.i .i64 q.i))],hpL [],2⟩,fun q=>vars.length-q.i⟩
  ⟨0,by omega,trivial⟩ (by kernel_rfl) ?_ ?_
 ·refine zag ?_ ?_ ?_<;>simp only[go_sem,hW0,hs]
  all_goals first|done|rfl|omega
 rintro⟨i,hi,_⟩
 try simp only at hi
 rcases Nat.lt_or_ge i vars.length with h1|h1
 ·have hws:=kW.out i
  have hwl:=kl.out (i+1) (by omega)
  repeat'(first|refine rq fun _=>?_|simp only[go_sem,h1,hws,Tryd.f41])
  refine⟨⟨i+1,by omega,trivial⟩,by simp only;omega,?_⟩
  refine zag ?_ ?_ ?_<;>simp only[go_sem,hws]
  all_goals first|done|rfl|omega
 obtain rfl:i=vars.length:=by omega
 have hms:m.size.toNat=s:=by rw[hs];rfl
 obtain⟨Dg,hDg⟩:∃Dg:Nat→List Int,Dg=fun i=>zaR s vars.length i:=⟨_,rfl⟩
 have hDl:∀i,(Dg i).length=vars.length:=fun i=>by rw[hDg];exact zaS s _ i
 have hDv:∀i,∀v∈Dg i,0≤v∧v<(s:Int):=fun i v hv=>by rw[hDg]at hv;exact zdv (by omega) _ _ v hv
 have hVL0:∀i,zfx s i vars.length 0=List.replicate vars.length 0:=fun i=>zeR s i _
 have hVLe:∀i,zfx s i vars.length vars.length=Dg i:=fun i=>by rw[ze4,hDg]
 obtain⟨I,hI⟩:∃I:Nat→Int,I=fun j:Nat=>(vars.length:Int)-1-(j:Int):=⟨_,rfl⟩
 have hI0:I 0=(vars.length:Int)-1:=by rw[hI];simp
 have hIs:∀j,I (j+1)=I j-1:=fun j=>by rw[hI];simp only;omega
 have hIe:I vars.length= -1:=by rw[hI];simp only;omega
 have hIj:∀j (_:j<vars.length),I j=((vars.length-1-j:Nat):Int):=fun j h=>by rw[hI];simp only;omega
 have kI:=Kp.mk hIj
 have kS:=Kp.mk hIs
 have kD:=Kp.mk hDv
 have kV0:=Kp.mk hVL0
 have kVe:=Kp.mk hVLe
 have rep_ints:∀n:Nat,List.replicate n (D.fz (.i .i64 0))=zae ((List.replicate n (0:Int)).map enc):=fun n=>by rw[zaY];simp[zj1]
 clear hI hIj hIs hDv hVL0 hVLe
 repeat'(first|refine rq fun _=>?_|simp only[go_sem,hk,hs,me,Nat.lt_irrefl,hN,zfm,zb3,←hP0,zad,zac,zab,zaa,Tryd.f41])
 refine zai hm kT.out 41000 (lsw [219] [1000061,1000069]) (ι:=zbG N 3 fun _=>True)
  ⟨fun q=>⟨frL [(2,.fz (.sl (vars.map enc))),(3,.rp [.i .i64 s,.sl (m.consts.map enc),.sl (m.rels.map enc)]),(4,.rp [.i .i64 f.kind,.s f.name.l,.sl (f.words.map enc),.sl (f.subs.map enc)]),(8,.arr (41043,2) 1 0 N),(143,.arr (41043,2) 1 0 N),(144,.fz (.i .i64 N)),(145,.fz (.i .i64 q.i))],hpL [((41043,2),some ⟨zae ((zaP V N q.i).map enc),false,false⟩)],q.m⟩,fun q=>N-q.i⟩
  ⟨0,3,by omega,by omega,trivial⟩ (by kernel_rfl) ?_ ?_
 ·refine zag ?_ ?_ ?_<;>simp only[go_sem,hk,hs]
  all_goals first|done|rfl|omega
 rintro⟨i,n,hi,hn,_⟩
 try simp only at hi hn
 rcases Nat.lt_or_ge i N with h1|h1
 rotate_left
 ·obtain rfl:i=N:=by omega
  repeat'(first|refine rq fun _=>?_|simp only[go_sem,Nat.lt_irrefl,hpl,Tryd.f41])
  exact⟨(41043,2),by simp only;omega,rfl,by simp only[go_sem]⟩
 have v0:=kV0.out i
 have ve:=kVe.out i
 repeat'(first|refine rq fun _=>?_|simp only[go_sem,h1,hs,hk,zfm,rep_ints,←v0,hI0,Tryd.f41])
 refine zai hm kT.out 41000 (lsw [219] [1000061,1000069]) (ι:=zbG vars.length (n+1) fun _=>True)
  ⟨fun q=>⟨frL [(2,.fz (.sl (vars.map enc))),(3,.rp [.i .i64 s,.sl (m.consts.map enc),.sl (m.rels.map enc)]),(4,.rp [.i .i64 f.kind,.s f.name.l,.sl (f.words.map enc),.sl (f.subs.map enc)]),(8,.arr (41043,2) 1 0 N),(10,.fz (.i .i64 i)),(143,.arr (41043,2) 1 0 N),(144,.fz (.i .i64 N)),(145,.fz (.i .i64 i)),(11,.arr (41150,n) 1 0 vars.length),(12,.fz (.i .i64 (I q.i))),(13,.fz (.i .i64 (zeN s i q.i:Nat)))],hpL [((41043,2),some ⟨zae ((zaP V N i).map enc),false,false⟩),((41150,n),some ⟨zae ((zfx s i vars.length q.i).map enc),false,false⟩)],q.m⟩,fun q=>vars.length-q.i⟩
  ⟨0,n+1,by omega,by omega,trivial⟩ (by kernel_rfl) ?_ ?_
 ·refine zag ?_ ?_ ?_<;>simp only[go_sem,hI0,zeN,hk,hs]
  all_goals first|done|rfl|omega
 rintro⟨j,n2,hj,hn2,_⟩
 try simp only at hj hn2
 rcases Nat.lt_or_ge j vars.length with h2|h2
 ·have e1:=kI.out j h2
  have e4:=kS.out j
  have hset:=zgi (s:=s) (i:=i) h2
  have hvl:=zgh (s:=s) (i:=i) (j:=j) (n:=vars.length) (by omega)
  obtain⟨p,hp⟩:∃p,vars.length-1-j=p:=⟨_,rfl⟩
  have hpl2:p<vars.length:=by omega
  rw[hp]at hset e1
  rw[e1]at e4
  have e2:((0:Int)≤(p:Int))=True:=eq_true (by omega)
  have hq1:zeN s i (j+1)=zeN s i j / s:=rfl
  obtain⟨x,hx⟩:∃x,zeN s i j=x:=⟨_,rfl⟩
  rw[hx]at hset hq1
  have em:(x:Int) % (s:Int)=((x % s:Nat):Int):=(Int.natCast_emod x s).symm
  have ed:(x:Int) / (s:Int)=((x / s:Nat):Int):=(Int.natCast_ediv x s).symm
  obtain⟨r,hr⟩:∃r,x % s=r:=⟨_,rfl⟩
  obtain⟨y,hy⟩:∃y,x / s=y:=⟨_,rfl⟩
  rw[hr]at em hset
  rw[hy]at ed hq1
  have hfs:(zae ((zfx s i vars.length j).map enc)).set p (.fz (.i .i64 r))=zae ((zfx s i vars.length (j+1)).map enc):=by rw[←hset,←zaV];rfl
  repeat'(first|refine zaB.i ⟨rfl,by omega,by omega⟩ fun _=>?_|refine rq fun _=>?_|simp only[go_sem,hs,hk,e1,e2,hx,em,ed,hvl,hpl2,Tryd.f41])
  all_goals
   refine⟨⟨j+1,n2,by omega,by omega,trivial⟩,by simp only;omega,?_⟩
   refine zag ?_ ?_ ?_<;>simp only[go_sem,hfs,e4,hq1,hk,hs]
   all_goals first|done|rfl|omega
 obtain rfl:j=vars.length:=by omega
 obtain⟨val,hval⟩:∃val:Str→Int,val=zbW m (zhn vars (Dg i)):=⟨_,rfl⟩
 obtain⟨T,hT⟩:∃T:Nat→List Int,T=fun a=>(f.words.take a).map val:=⟨_,rfl⟩
 have hT0:T 0=[]:=by rw[hT];rfl
 have hTs:∀a (h:a<f.words.length),T (a+1)=T a++[val f.words[a]]:=fun a h=>by rw[hT];simp only[List.take_succ_eq_append_getElem h,List.map_append,List.map_cons,List.map_nil]
 have hTl:∀a,(T a).length≤3:=fun a=>by rw[hT];simp only[List.length_map,List.length_take];omega
 have hTe:T f.words.length=f.words.map val:=by rw[hT];simp only[List.take_length]
 have hDl':=hDl i
 have henv:∀x∈zhn vars (Dg i),0≤x.value:=fun x hx=>(kD.out i _ (zfP hx)).1
 have hcon:∀x∈m.consts,0≤x.value:=fun x hx=>(hcv x hx).1
 obtain⟨R,hR⟩:∃R,(zhn vars (Dg i)).reverse=R:=⟨_,rfl⟩
 have hRl:R.length=vars.length:=by rw[←hR,List.length_reverse,zj3 vars hDl']
 have hRv:∀x∈R,0≤x.value:=fun x hx=>henv x (List.mem_reverse.1 (by rw[hR];exact hx))
 have hRg:∀j (h:j<vars.length) (h':j<R.length),R[j]=⟨vars[vars.length-1-j],(Dg i)[vars.length-1-j]⟩:=fun j h h'=>by subst hR;exact zop hDl' h h'
 have hwe:∀w∈f.words,zft (zbp R w) m.consts w=val w:=fun w hw=>by
  rw[←hR,hval]
  refine ztj henv ?_
  by_cases hin:w∈vars
  ·exact .inl (by rw[zeX hDl'];exact hin)
  ·refine .inr (hcs w ?_)
   obtain⟨k,nm,ws,s'⟩:=f
   rw[cst,List.mem_append]
   exact .inl (List.mem_filter.2 ⟨hw,decide_eq_true hin⟩)
 have kT2:=Kp.mk hTs
 have kTl:=Kp.mk hTl
 have kRg:=Kp.mk hRg
 have kRv:=Kp.mk hRv
 have kwe:=Kp.mk hwe
 have kcon:=Kp.mk hcon
 clear hT hTs hTl hRg hRv hwe hcon henv hR
 repeat'(first|refine rq fun _=>?_|simp only[go_sem,Nat.lt_irrefl,hIe,ve,hs,hk,Tryd.f41])
 refine zai hm kT.out 41000 (lsw [219] [1000061,1000069]) (ι:=zen f.words.length (n+1) fun _=>True)
  ⟨fun q=>⟨frL [(2,.fz (.sl (vars.map enc))),(3,.rp [.i .i64 s,.sl (m.consts.map enc),.sl (m.rels.map enc)]),(4,.rp [.i .i64 f.kind,.s f.name.l,.sl (f.words.map enc),.sl (f.subs.map enc)]),(8,.arr (41043,2) 1 0 N),(10,.fz (.i .i64 i)),(143,.arr (41043,2) 1 0 N),(144,.fz (.i .i64 N)),(145,.fz (.i .i64 i)),(11,.arr (41150,n) 1 0 vars.length),(14,.ow (41219,q.g) 1 ((T q.i).map enc)),(171,.fz (.sl (f.words.map enc))),(172,.fz (.i .i64 f.words.length)),(173,.fz (.i .i64 q.i))],hpL [((41043,2),some ⟨zae ((zaP V N i).map enc),false,false⟩),((41150,n),some ⟨zae ((Dg i).map enc),false,false⟩),((41219,q.g),some tok)],q.m⟩,fun q=>f.words.length-q.i⟩
  ⟨0,n2,n2+1,by omega,by omega,by omega,trivial⟩ (by kernel_rfl) ?_ ?_
 ·refine zbc [] [(41219,n2)] [] ?_ ?_ ?_ ?_ ?_<;>(try simp only[go_sem,hT0,hs,hk,ve,List.map_nil])
  all_goals first|done|rfl|omega
 rintro⟨a,g,n3,ha,hg,hn3,_⟩
 try simp only at ha hg hn3
 rcases Nat.lt_or_ge a f.words.length with h2|h2
 ·obtain⟨w,hw⟩:∃w,f.words[a]=w:=⟨_,rfl⟩
  have hwm:w∈f.words:=hw▸List.getElem_mem h2
  have hts:=kT2.out a h2
  have htl:=kTl.out a
  rw[hw]at hts
  obtain⟨fv,hfv⟩:∃fv:Nat→Int,fv=fun j=>zbp (R.take j) w:=⟨_,rfl⟩
  have hf0:fv 0= -1:=by rw[hfv];rfl
  have hfs:∀j (h:j<vars.length) (h2:vars.length-1-j<vars.length) (h3:vars.length-1-j<(Dg i).length),fv (j+1)=if fv j<0∧vars[vars.length-1-j]=w then(Dg i)[vars.length-1-j]else fv j:=fun j h h2 h3=>by
   rw[hfv]
   simp only
   rw[List.take_succ_eq_append_getElem (show j<R.length by omega),zfj (fun x hx=>kRv.out x (List.mem_of_mem_take hx)),kRg.out j h]
  have hfe:fv vars.length=zbp R w:=by rw[hfv];simp only;rw[←hRl,List.take_length]
  have hft:∀j,0≤fv j→zbp R w=fv j:=fun j h=>by rw[hfv]at h ⊢;exact zh9 kRv.out h
  have kfs:=Kp.mk hfs
  have kft:=Kp.mk hft
  clear hfs hft hfv
  have hgw:((f.words.map enc).getD a FD.nilf)=FD.s w.l:=by rw[zaa h2,hw];rfl
  repeat'(first|refine zaB.i (by rw[hgw];rfl) fun _=>?_|refine rq fun _=>?_|simp only[go_sem,h2,hgw,zac,hs,hk,hI0,Tryd.f41])
  refine zai hm kT.out 41000 (lsw [219] [1000061,1000069]) (ι:=zbG vars.length n3 fun _=>True)
   ⟨fun q=>⟨frL [(2,.fz (.sl (vars.map enc))),(3,.rp [.i .i64 s,.sl (m.consts.map enc),.sl (m.rels.map enc)]),(4,.rp [.i .i64 f.kind,.s f.name.l,.sl (f.words.map enc),.sl (f.subs.map enc)]),(8,.arr (41043,2) 1 0 N),(10,.fz (.i .i64 i)),(143,.arr (41043,2) 1 0 N),(144,.fz (.i .i64 N)),(145,.fz (.i .i64 i)),(11,.arr (41150,n) 1 0 vars.length),(14,.ow (41219,g) 1 ((T a).map enc)),(171,.fz (.sl (f.words.map enc))),(172,.fz (.i .i64 f.words.length)),(173,.fz (.i .i64 a)),(16,.fz (.s w.l)),(17,.fz (.i .i64 (fv q.i))),(18,.fz (.i .i64 (I q.i)))],hpL [((41043,2),some ⟨zae ((zaP V N i).map enc),false,false⟩),((41150,n),some ⟨zae ((Dg i).map enc),false,false⟩),((41219,g),some tok)],q.m⟩,fun q=>vars.length-q.i⟩
   ⟨0,n3,by omega,by omega,trivial⟩ (by kernel_rfl) ?_ ?_
  ·refine zag ?_ ?_ ?_<;>simp only[go_sem,hf0,hI0,hs,hk]
   all_goals first|done|rfl|omega
  rintro⟨j,n4,hj,hn4,_⟩
  try simp only at hj hn4
  obtain⟨v,hv⟩:∃v,fv j=v:=⟨_,rfl⟩
  have hcase:(j<vars.length∧v<0)∨(zbp R w=v∧∃z,I j=z∧(((0≤z)=True∧(v<0)=False)∨((0≤z)=False∧(v<0)=True)∨((0≤z)=False∧(v<0)=False))):=by
   rcases Nat.lt_or_ge j vars.length with h|h
   ·by_cases h5:v<0
    ·exact .inl ⟨h,h5⟩
    ·exact .inr ⟨by rw[kft.out j (by omega),hv],_,kI.out j h,.inl ⟨eq_true (by omega),eq_false h5⟩⟩
   ·obtain rfl:j=vars.length:=by omega
    refine .inr ⟨by rw[←hfe,hv], -1,hIe,?_⟩
    by_cases h5:v<0
    ·exact .inr (.inl ⟨eq_false (by decide),eq_true h5⟩)
    ·exact .inr (.inr ⟨eq_false (by decide),eq_false h5⟩)
  rcases hcase with⟨h3,h4⟩|⟨hve,z,hz,hcase⟩
  ·have hs1':=kfs.out j h3 (by omega) (by omega)
   rw[hv]at hs1'
   have e1:=kI.out j h3
   have e4:=kS.out j
   obtain⟨p,hp⟩:∃p,vars.length-1-j=p:=⟨_,rfl⟩
   have hpl2:p<vars.length:=by omega
   have hpl3:p<(Dg i).length:=by omega
   simp only[hp]at hs1' e1
   rw[e1]at e4
   have e2:((0:Int)≤(p:Int))=True:=eq_true (by omega)
   have e3:(v<0)=True:=eq_true h4
   obtain⟨x,hx⟩:∃x,vars[p]=x:=⟨_,rfl⟩
   obtain⟨d,hd⟩:∃d,(Dg i)[p]=d:=⟨_,rfl⟩
   rw[hx,hd]at hs1'
   have hgx:((vars.map enc).getD p FD.nilf)=FD.s x.l:=by rw[zaa hpl2,hx];rfl
   have hgd:(zae ((Dg i).map enc)).getD p .junk= .fz (.i .i64 d):=by rw[zaY,List.getD_eq_getElem?_getD,List.getElem?_map,List.getElem?_eq_getElem hpl3,hd];rfl
   by_cases h6:x=w
   ·have h6':(x=w)=True:=eq_true h6
    rw[if_pos ⟨h4,h6⟩]at hs1'
    repeat'(first|refine zaB.i (by rw[hgx];rfl) fun _=>?_|refine rq fun _=>?_|simp only[go_sem,hs,hk,hv,e1,e2,e3,hgx,hgd,hpl2,hpl3,hDl',h6',zac,Tryd.f41])
    all_goals
     refine⟨⟨j+1,n4,by omega,by omega,trivial⟩,by simp only;omega,?_⟩
     refine zag ?_ ?_ ?_<;>simp only[go_sem,hs1',e4,hk,hs]
     all_goals first|done|rfl|omega
   ·have h6':(x=w)=False:=eq_false h6
    rw[if_neg (fun h=>h6 h.2)]at hs1'
    repeat'(first|refine zaB.i (by rw[hgx];rfl) fun _=>?_|refine rq fun _=>?_|simp only[go_sem,hs,hk,hv,e1,e2,e3,hgx,hgd,hpl2,hpl3,hDl',h6',zac,Tryd.f41])
    all_goals
     refine⟨⟨j+1,n4,by omega,by omega,trivial⟩,by simp only;omega,?_⟩
     refine zag ?_ ?_ ?_<;>simp only[go_sem,hs1',e4,hk,hs]
     all_goals first|done|rfl|omega
  have g0:zft v [] w=v:=zjz (by rw[←hve];exact zlC kRv.out)
  obtain⟨gv,hgv⟩:∃gv:Nat→Int,gv=fun k=>zft v (m.consts.take k) w:=⟨_,rfl⟩
  have hg0:gv 0=v:=by rw[hgv];exact g0
  have hgs:∀k (h:k<m.consts.length),gv (k+1)=if gv k<0∧m.consts[k].name=w then m.consts[k].value else gv k:=fun k h=>by
   rw[hgv]
   simp only
   rw[List.take_succ_eq_append_getElem h,zjy (fun x hx=>kcon.out x (List.mem_of_mem_take hx))]
  have hge:gv m.consts.length=val w:=by
   rw[hgv];simp only[List.take_length];rw[←hve];exact kwe.out w hwm
  have kgs:=Kp.mk hgs
  clear hgs hgv g0
  rcases hcase with⟨c1,c2⟩|⟨c1,c2⟩|⟨c1,c2⟩
  all_goals
   repeat'(first|refine rq fun _=>?_|simp only[go_sem,hs,hk,hv,hz,c1,c2,Tryd.f41])
   refine zai hm kT.out 41000 (lsw [219] [1000061,1000069]) (ι:=zbG m.consts.length n4 fun _=>True)
    ⟨fun q=>⟨frL [(2,.fz (.sl (vars.map enc))),(3,.rp [.i .i64 s,.sl (m.consts.map enc),.sl (m.rels.map enc)]),(4,.rp [.i .i64 f.kind,.s f.name.l,.sl (f.words.map enc),.sl (f.subs.map enc)]),(8,.arr (41043,2) 1 0 N),(10,.fz (.i .i64 i)),(143,.arr (41043,2) 1 0 N),(144,.fz (.i .i64 N)),(145,.fz (.i .i64 i)),(11,.arr (41150,n) 1 0 vars.length),(14,.ow (41219,g) 1 ((T a).map enc)),(171,.fz (.sl (f.words.map enc))),(172,.fz (.i .i64 f.words.length)),(173,.fz (.i .i64 a)),(16,.fz (.s w.l)),(17,.fz (.i .i64 (gv q.i))),(199,.fz (.sl (m.consts.map enc))),(200,.fz (.i .i64 m.consts.length)),(201,.fz (.i .i64 q.i))],hpL [((41043,2),some ⟨zae ((zaP V N i).map enc),false,false⟩),((41150,n),some ⟨zae ((Dg i).map enc),false,false⟩),((41219,g),some tok)],q.m⟩,fun q=>m.consts.length-q.i⟩
    ⟨0,n4,by omega,by omega,trivial⟩ (by kernel_rfl) ?_ ?_
   ·refine zag ?_ ?_ ?_<;>simp only[go_sem,hg0,hs,hk]
    all_goals first|done|rfl|omega
   rintro⟨k,n5,hkk,hn5,_⟩
   try simp only at hkk hn5
   rcases Nat.lt_or_ge k m.consts.length with h3|h3
   ·have hgs:=kgs.out k h3
    obtain⟨x,hx⟩:∃x,m.consts[k]=x:=⟨_,rfl⟩
    obtain⟨u,hu⟩:∃u,gv k=u:=⟨_,rfl⟩
    rw[hx,hu]at hgs
    by_cases h7:u<0
    ·have h7':(u<0)=True:=eq_true h7
     by_cases h8:x.name=w
     ·have h8':(x.name=w)=True:=eq_true h8
      rw[if_pos ⟨h7,h8⟩]at hgs
      repeat'(first|refine rq fun _=>?_|simp only[go_sem,h3,hx,hs,hk,hu,h7',h8',zat,zac,zaa,Tryd.f41])
      all_goals
       refine⟨⟨k+1,n5+2,by omega,by omega,trivial⟩,by simp only;omega,?_⟩
       refine zag ?_ ?_ ?_<;>simp only[go_sem,hgs,hk,hs]
       all_goals first|done|rfl|omega
     ·have h8':(x.name=w)=False:=eq_false h8
      rw[if_neg (fun h=>h8 h.2)]at hgs
      repeat'(first|refine rq fun _=>?_|simp only[go_sem,h3,hx,hs,hk,hu,h7',h8',zat,zac,zaa,Tryd.f41])
      all_goals
       refine⟨⟨k+1,n5+2,by omega,by omega,trivial⟩,by simp only;omega,?_⟩
       refine zag ?_ ?_ ?_<;>simp only[go_sem,hgs,hk,hs]
       all_goals first|done|rfl|omega
    ·have h7':(u<0)=False:=eq_false h7
     rw[if_neg (fun h=>h7 h.1)]at hgs
     repeat'(first|refine rq fun _=>?_|simp only[go_sem,h3,hx,hs,hk,hu,h7',zat,zac,zaa,Tryd.f41])
     all_goals
      refine⟨⟨k+1,n5+2,by omega,by omega,trivial⟩,by simp only;omega,?_⟩
      refine zag ?_ ?_ ?_<;>simp only[go_sem,hgs,hk,hs]
      all_goals first|done|rfl|omega
   obtain rfl:k=m.consts.length:=by omega
   repeat'(first|refine zaB.i (zaL (by first|omega|(simp only[List.length_map,List.length_append,List.length_cons,List.length_nil];omega)) (by decide)) fun _=>?_|refine rq fun _=>?_|simp only[go_sem,Nat.lt_irrefl,hs,hk,hge,Tryd.f41])
   all_goals
    refine⟨⟨a+1,n5,n5+1,by omega,by omega,by omega,trivial⟩,by simp only;omega,?_⟩
    refine zag ?_ ?_ ?_<;>(try simp only[go_sem,hts,hs,hk,List.map_append,List.map_cons,List.map_nil])
    all_goals first|done|rfl|omega
 obtain rfl:a=f.words.length:=by omega
 obtain⟨w0,w1,hww⟩:=zmy hwl2
 have hT2:T f.words.length=[val w0,val w1]:=by rw[hTe,hww];rfl
 have hVi:V i=decide (val w0=val w1):=by
  rw[hV,hval,hDg]
  obtain⟨k,nm,ws,s'⟩:=f
  simp only[zaz,zdX]at hk hww
  subst hk
  subst hww
  rw[zAz,hms]
  rfl
 obtain⟨x,hx⟩:∃x,val w0=x:=⟨_,rfl⟩
 obtain⟨y,hy⟩:∃y,val w1=y:=⟨_,rfl⟩
 rw[hx,hy]at hT2 hVi
 have hset:∀v,V i=v→(zae ((zaP V N i).map enc)).set i (.fz (.b v))=zae ((zaP V N (i+1)).map enc):=fun v hv=>by
  rw[←zck h1,←zaV,hv];rfl
 by_cases hxy:x=y
 ·have hxy':(x=y)=True:=eq_true hxy
  have hset:=hset true (by rw[hVi,decide_eq_true hxy])
  repeat'(first|refine zaK hm kT.out 41000 (lsw [219] [1000061,1000069]) zpb (by kernel_rfl) (by kernel_rfl) ?_|refine And.intro ?_ ?_|exact True.intro|refine rq fun _=>?_|simp only[go_sem,Nat.lt_irrefl,hs,hk,hT2,hpl,h1,hxy',zpb,List.map_cons,List.map_nil,List.getD_cons_zero,List.getD_cons_succ,List.length_cons,List.length_nil,Tryd.f41])
  all_goals
   refine⟨⟨i+1,n3+9,by omega,by omega,trivial⟩,by simp only;omega,?_⟩
   refine zag ?_ ?_ ?_<;>simp only[go_sem,hset,hs,hk]
   all_goals first|done|rfl|omega
 ·have hxy':(x=y)=False:=eq_false hxy
  have hset:=hset false (by rw[hVi,decide_eq_false hxy])
  repeat'(first|refine zaK hm kT.out 41000 (lsw [219] [1000061,1000069]) zpb (by kernel_rfl) (by kernel_rfl) ?_|refine And.intro ?_ ?_|exact True.intro|refine rq fun _=>?_|simp only[go_sem,Nat.lt_irrefl,hs,hk,hT2,hpl,h1,hxy',zpb,List.map_cons,List.map_nil,List.getD_cons_zero,List.getD_cons_succ,List.length_cons,List.length_nil,Tryd.f41])
  all_goals
   refine⟨⟨i+1,n3+9,by omega,by omega,trivial⟩,by simp only;omega,?_⟩
   refine zag ?_ ?_ ?_<;>simp only[go_sem,hset,hs,hk]
   all_goals first|done|rfl|omega
set_option maxHeartbeats 4000000 in
theorem zId {n:Nat}(hT:zan Tryd.prog G (E3.add 41 (sp3 zcJ fun m f vs=>f.size<n∧zg8 m f vs))){m:zal}{f:Abs.zaf}{vars:List Str}(hn:f.size=n)(hp:zg8 m f vars)(hwm:(enc m).Wf)(hk:f.kind=2):zay Tryd.prog G 41 [.fz (enc m),.fz (enc f),.fz (enc vars)] (hpL []) 0 (fun d _ _=>D.val d=some (.fz (enc (zcJ m f vars)))):=by
 have hwl:f.words.length≤3:=by have h:=zdm.1 hp.vk;have:=h.2.2.1 hk;omega
 have hmg:=hp.gd
 have htlen:∀q∈m.rels,q.tuples.length≤zba:=fun q hq=>by
  have h3:(enc q).Wf:=zdO (za9 (by have h:=hwm;rw[zb0]at h;exact h) (FD.sl (m.rels.map enc)) (by simp)) _ (List.mem_map_of_mem hq)
  rw[zj2]at h3
  have h5:=zbV (za9 h3 (FD.sl (q.tuples.map enc)) (by simp))
  rwa [List.length_map]at h5
 have hcs:=hp.cs
 have hcv:=hp.gd.cv
 have hlc:=hp.gd.v.lc
 obtain⟨V,hV⟩:∃V:Nat→Bool,V=zcf m f vars:=⟨_,rfl⟩
 obtain⟨s,hs⟩:∃s:Nat,m.size=(s:Int):=⟨m.size.toNat,by have:=hp.gd.v.s1;omega⟩
 have me:zal.mk (s:Int) m.consts m.rels=m:=by rw[←hs]
 have hs1:1≤s:=by have:=hp.gd.v.s1;omega
 have hs6:s≤6:=by have:=hp.gd.v.s6;omega
 have hvl:vars.length≤6:=by have:=hp.nl;omega
 obtain⟨W,hW⟩:∃W:Nat→Nat,W=fun i=>s^i:=⟨_,rfl⟩
 have hW0:W 0=1:=by rw[hW];rfl
 have hWs:∀i,(W i:Int)*(s:Int)=(W (i+1):Int):=fun i=>by rw[hW];simp only;rw[Nat.pow_succ];simp
 have hWl:∀i,i≤6→W i≤46656:=fun i h=>by
  rw[hW]
  exact Nat.le_trans (Nat.pow_le_pow_left hs6 i) (Nat.pow_le_pow_right (by omega) h)
 obtain⟨N,hN⟩:∃N,W vars.length=N:=⟨_,rfl⟩
 have hNl:N≤46656:=by rw[←hN];exact hWl _ hvl
 have hT':zcJ m f vars=(List.range N).map V:=by
  unfold zcJ
  rw[hV,←hN,hW,hs];rfl
 have hP0:=zbT V N
 rw[hT',←zcj V N]
 refine zc1 ?_
 have hpl:∀i,(zaP V N i).length=N:=fun i=>zbz V N i
 have kT:=Kp.mk hT
 have kW:=Kp.mk hWs
 have kl:=Kp.mk hWl
 clear hT hT' hW hWs hWl
 refine zah (N:=345) hm kT.out 41000 (lsw [219] [1000061,1000069]) ztq Tryd.func41 rfl rfl (by simp) (by kernel_rfl) ?_
 repeat'(first|refine rq fun _=>?_|simp only[go_sem,hs,Tryd.f41])
 refine zbD (zcW (id:=(41003,0)) (t:=3) (b:=true) (ys:=[.i .i64 s,.sl (m.consts.map enc),.sl (m.rels.map enc)]) (by simp only[go_sem]) (by simp only[go_sem])) ?_
 refine zbD (zcW (id:=(41004,1)) (t:=4) (b:=true) (ys:=[.i .i64 f.kind,.s f.name.l,.sl (f.words.map enc),.sl (f.subs.map enc)]) (by simp only[go_sem]) (by simp only[go_sem])) ?_
 refine zai hm kT.out 41000 (lsw [219] [1000061,1000069]) (ι:=za5 vars.length fun _=>True)
  ⟨fun q=>⟨frL [(2,.fz (.sl (vars.map enc))),(3,.rp [.i .i64 s,.sl (m.consts.map enc),.sl (m.rels.map enc)]),(4,.rp [.i .i64 f.kind,.s f.name.l,.sl (f.words.map enc),.sl (f.subs.map enc)]),(7,.fz (.i .i64 (W q.i:Nat))),(34,.fz (.i .i64 vars.length)),(35,.fz (.i .i64 q.i))],hpL [],2⟩,fun q=>vars.length-q.i⟩
  ⟨0,by omega,trivial⟩ (by kernel_rfl) ?_ ?_
 ·refine zag ?_ ?_ ?_<;>simp only[go_sem,hW0,hs]
  all_goals first|done|rfl|omega
 rintro⟨i,hi,_⟩
 try simp only at hi
 rcases Nat.lt_or_ge i vars.length with h1|h1
 ·have hws:=kW.out i
  have hwl:=kl.out (i+1) (by omega)
  repeat'(first|refine rq fun _=>?_|simp only[go_sem,h1,hws,Tryd.f41])
  refine⟨⟨i+1,by omega,trivial⟩,by simp only;omega,?_⟩
  refine zag ?_ ?_ ?_<;>simp only[go_sem,hws]
  all_goals first|done|rfl|omega
 obtain rfl:i=vars.length:=by omega
 have hms:m.size.toNat=s:=by rw[hs];rfl
 obtain⟨Dg,hDg⟩:∃Dg:Nat→List Int,Dg=fun i=>zaR s vars.length i:=⟨_,rfl⟩
 have hDl:∀i,(Dg i).length=vars.length:=fun i=>by rw[hDg];exact zaS s _ i
 have hDv:∀i,∀v∈Dg i,0≤v∧v<(s:Int):=fun i v hv=>by rw[hDg]at hv;exact zdv (by omega) _ _ v hv
 have hVL0:∀i,zfx s i vars.length 0=List.replicate vars.length 0:=fun i=>zeR s i _
 have hVLe:∀i,zfx s i vars.length vars.length=Dg i:=fun i=>by rw[ze4,hDg]
 obtain⟨I,hI⟩:∃I:Nat→Int,I=fun j:Nat=>(vars.length:Int)-1-(j:Int):=⟨_,rfl⟩
 have hI0:I 0=(vars.length:Int)-1:=by rw[hI];simp
 have hIs:∀j,I (j+1)=I j-1:=fun j=>by rw[hI];simp only;omega
 have hIe:I vars.length= -1:=by rw[hI];simp only;omega
 have hIj:∀j (_:j<vars.length),I j=((vars.length-1-j:Nat):Int):=fun j h=>by rw[hI];simp only;omega
 have kI:=Kp.mk hIj
 have kS:=Kp.mk hIs
 have kD:=Kp.mk hDv
 have kV0:=Kp.mk hVL0
 have kVe:=Kp.mk hVLe
 have rep_ints:∀n:Nat,List.replicate n (D.fz (.i .i64 0))=zae ((List.replicate n (0:Int)).map enc):=fun n=>by rw[zaY];simp[zj1]
 clear hI hIj hIs hDv hVL0 hVLe
 repeat'(first|refine rq fun _=>?_|simp only[go_sem,hk,hs,me,Nat.lt_irrefl,hN,zfm,zb3,←hP0,zad,zac,zab,zaa,Tryd.f41])
 refine zai hm kT.out 41000 (lsw [219] [1000061,1000069]) (ι:=zbG N 3 fun _=>True)
  ⟨fun q=>⟨frL [(2,.fz (.sl (vars.map enc))),(3,.rp [.i .i64 s,.sl (m.consts.map enc),.sl (m.rels.map enc)]),(4,.rp [.i .i64 f.kind,.s f.name.l,.sl (f.words.map enc),.sl (f.subs.map enc)]),(8,.arr (41043,2) 1 0 N),(143,.arr (41043,2) 1 0 N),(144,.fz (.i .i64 N)),(145,.fz (.i .i64 q.i))],hpL [((41043,2),some ⟨zae ((zaP V N q.i).map enc),false,false⟩)],q.m⟩,fun q=>N-q.i⟩
  ⟨0,3,by omega,by omega,trivial⟩ (by kernel_rfl) ?_ ?_
 ·refine zag ?_ ?_ ?_<;>simp only[go_sem,hk,hs]
  all_goals first|done|rfl|omega
 rintro⟨i,n,hi,hn,_⟩
 try simp only at hi hn
 rcases Nat.lt_or_ge i N with h1|h1
 rotate_left
 ·obtain rfl:i=N:=by omega
  repeat'(first|refine rq fun _=>?_|simp only[go_sem,Nat.lt_irrefl,hpl,Tryd.f41])
  exact⟨(41043,2),by simp only;omega,rfl,by simp only[go_sem]⟩
 have v0:=kV0.out i
 have ve:=kVe.out i
 repeat'(first|refine rq fun _=>?_|simp only[go_sem,h1,hs,hk,zfm,rep_ints,←v0,hI0,Tryd.f41])
 refine zai hm kT.out 41000 (lsw [219] [1000061,1000069]) (ι:=zbG vars.length (n+1) fun _=>True)
  ⟨fun q=>⟨frL [(2,.fz (.sl (vars.map enc))),(3,.rp [.i .i64 s,.sl (m.consts.map enc),.sl (m.rels.map enc)]),(4,.rp [.i .i64 f.kind,.s f.name.l,.sl (f.words.map enc),.sl (f.subs.map enc)]),(8,.arr (41043,2) 1 0 N),(10,.fz (.i .i64 i)),(143,.arr (41043,2) 1 0 N),(144,.fz (.i .i64 N)),(145,.fz (.i .i64 i)),(11,.arr (41150,n) 1 0 vars.length),(12,.fz (.i .i64 (I q.i))),(13,.fz (.i .i64 (zeN s i q.i:Nat)))],hpL [((41043,2),some ⟨zae ((zaP V N i).map enc),false,false⟩),((41150,n),some ⟨zae ((zfx s i vars.length q.i).map enc),false,false⟩)],q.m⟩,fun q=>vars.length-q.i⟩
  ⟨0,n+1,by omega,by omega,trivial⟩ (by kernel_rfl) ?_ ?_
 ·refine zag ?_ ?_ ?_<;>simp only[go_sem,hI0,zeN,hk,hs]
  all_goals first|done|rfl|omega
 rintro⟨j,n2,hj,hn2,_⟩
 try simp only at hj hn2
 rcases Nat.lt_or_ge j vars.length with h2|h2
 ·have e1:=kI.out j h2
  have e4:=kS.out j
  have hset:=zgi (s:=s) (i:=i) h2
  have hvl:=zgh (s:=s) (i:=i) (j:=j) (n:=vars.length) (by omega)
  obtain⟨p,hp⟩:∃p,vars.length-1-j=p:=⟨_,rfl⟩
  have hpl2:p<vars.length:=by omega
  rw[hp]at hset e1
  rw[e1]at e4
  have e2:((0:Int)≤(p:Int))=True:=eq_true (by omega)
  have hq1:zeN s i (j+1)=zeN s i j / s:=rfl
  obtain⟨x,hx⟩:∃x,zeN s i j=x:=⟨_,rfl⟩
  rw[hx]at hset hq1
  have em:(x:Int) % (s:Int)=((x % s:Nat):Int):=(Int.natCast_emod x s).symm
  have ed:(x:Int) / (s:Int)=((x / s:Nat):Int):=(Int.natCast_ediv x s).symm
  obtain⟨r,hr⟩:∃r,x % s=r:=⟨_,rfl⟩
  obtain⟨y,hy⟩:∃y,x / s=y:=⟨_,rfl⟩
  rw[hr]at em hset
  rw[hy]at ed hq1
  have hfs:(zae ((zfx s i vars.length j).map enc)).set p (.fz (.i .i64 r))=zae ((zfx s i vars.length (j+1)).map enc):=by rw[←hset,←zaV];rfl
  repeat'(first|refine zaB.i ⟨rfl,by omega,by omega⟩ fun _=>?_|refine rq fun _=>?_|simp only[go_sem,hs,hk,e1,e2,hx,em,ed,hvl,hpl2,Tryd.f41])
  all_goals
   refine⟨⟨j+1,n2,by omega,by omega,trivial⟩,by simp only;omega,?_⟩
   refine zag ?_ ?_ ?_<;>simp only[go_sem,hfs,e4,hq1,hk,hs]
   all_goals first|done|rfl|omega
 obtain rfl:j=vars.length:=by omega
 obtain⟨val,hval⟩:∃val:Str→Int,val=zbW m (zhn vars (Dg i)):=⟨_,rfl⟩
 obtain⟨T,hT⟩:∃T:Nat→List Int,T=fun a=>(f.words.take a).map val:=⟨_,rfl⟩
 have hT0:T 0=[]:=by rw[hT];rfl
 have hTs:∀a (h:a<f.words.length),T (a+1)=T a++[val f.words[a]]:=fun a h=>by rw[hT];simp only[List.take_succ_eq_append_getElem h,List.map_append,List.map_cons,List.map_nil]
 have hTl:∀a,(T a).length≤3:=fun a=>by rw[hT];simp only[List.length_map,List.length_take];omega
 have hTe:T f.words.length=f.words.map val:=by rw[hT];simp only[List.take_length]
 have hDl':=hDl i
 have henv:∀x∈zhn vars (Dg i),0≤x.value:=fun x hx=>(kD.out i _ (zfP hx)).1
 have hcon:∀x∈m.consts,0≤x.value:=fun x hx=>(hcv x hx).1
 obtain⟨R,hR⟩:∃R,(zhn vars (Dg i)).reverse=R:=⟨_,rfl⟩
 have hRl:R.length=vars.length:=by rw[←hR,List.length_reverse,zj3 vars hDl']
 have hRv:∀x∈R,0≤x.value:=fun x hx=>henv x (List.mem_reverse.1 (by rw[hR];exact hx))
 have hRg:∀j (h:j<vars.length) (h':j<R.length),R[j]=⟨vars[vars.length-1-j],(Dg i)[vars.length-1-j]⟩:=fun j h h'=>by subst hR;exact zop hDl' h h'
 have hwe:∀w∈f.words,zft (zbp R w) m.consts w=val w:=fun w hw=>by
  rw[←hR,hval]
  refine ztj henv ?_
  by_cases hin:w∈vars
  ·exact .inl (by rw[zeX hDl'];exact hin)
  ·refine .inr (hcs w ?_)
   obtain⟨k,nm,ws,s'⟩:=f
   rw[cst,List.mem_append]
   exact .inl (List.mem_filter.2 ⟨hw,decide_eq_true hin⟩)
 have kT2:=Kp.mk hTs
 have kTl:=Kp.mk hTl
 have kRg:=Kp.mk hRg
 have kRv:=Kp.mk hRv
 have kwe:=Kp.mk hwe
 have kcon:=Kp.mk hcon
 clear hT hTs hTl hRg hRv hwe hcon henv hR
 repeat'(first|refine rq fun _=>?_|simp only[go_sem,Nat.lt_irrefl,hIe,ve,hs,hk,Tryd.f41])
 refine zai hm kT.out 41000 (lsw [219] [1000061,1000069]) (ι:=zen f.words.length (n+1) fun _=>True)
  ⟨fun q=>⟨frL [(2,.fz (.sl (vars.map enc))),(3,.rp [.i .i64 s,.sl (m.consts.map enc),.sl (m.rels.map enc)]),(4,.rp [.i .i64 f.kind,.s f.name.l,.sl (f.words.map enc),.sl (f.subs.map enc)]),(8,.arr (41043,2) 1 0 N),(10,.fz (.i .i64 i)),(143,.arr (41043,2) 1 0 N),(144,.fz (.i .i64 N)),(145,.fz (.i .i64 i)),(11,.arr (41150,n) 1 0 vars.length),(14,.ow (41219,q.g) 1 ((T q.i).map enc)),(171,.fz (.sl (f.words.map enc))),(172,.fz (.i .i64 f.words.length)),(173,.fz (.i .i64 q.i))],hpL [((41043,2),some ⟨zae ((zaP V N i).map enc),false,false⟩),((41150,n),some ⟨zae ((Dg i).map enc),false,false⟩),((41219,q.g),some tok)],q.m⟩,fun q=>f.words.length-q.i⟩
  ⟨0,n2,n2+1,by omega,by omega,by omega,trivial⟩ (by kernel_rfl) ?_ ?_
 ·refine zbc [] [(41219,n2)] [] ?_ ?_ ?_ ?_ ?_<;>(try simp only[go_sem,hT0,hs,hk,ve,List.map_nil])
  all_goals first|done|rfl|omega
 rintro⟨a,g,n3,ha,hg,hn3,_⟩
 try simp only at ha hg hn3
 rcases Nat.lt_or_ge a f.words.length with h2|h2
 ·obtain⟨w,hw⟩:∃w,f.words[a]=w:=⟨_,rfl⟩
  have hwm:w∈f.words:=hw▸List.getElem_mem h2
  have hts:=kT2.out a h2
  have htl:=kTl.out a
  rw[hw]at hts
  obtain⟨fv,hfv⟩:∃fv:Nat→Int,fv=fun j=>zbp (R.take j) w:=⟨_,rfl⟩
  have hf0:fv 0= -1:=by rw[hfv];rfl
  have hfs:∀j (h:j<vars.length) (h2:vars.length-1-j<vars.length) (h3:vars.length-1-j<(Dg i).length),fv (j+1)=if fv j<0∧vars[vars.length-1-j]=w then(Dg i)[vars.length-1-j]else fv j:=fun j h h2 h3=>by
   rw[hfv]
   simp only
   rw[List.take_succ_eq_append_getElem (show j<R.length by omega),zfj (fun x hx=>kRv.out x (List.mem_of_mem_take hx)),kRg.out j h]
  have hfe:fv vars.length=zbp R w:=by rw[hfv];simp only;rw[←hRl,List.take_length]
  have hft:∀j,0≤fv j→zbp R w=fv j:=fun j h=>by rw[hfv]at h ⊢;exact zh9 kRv.out h
  have kfs:=Kp.mk hfs
  have kft:=Kp.mk hft
  clear hfs hft hfv
  have hgw:((f.words.map enc).getD a FD.nilf)=FD.s w.l:=by rw[zaa h2,hw];rfl
  repeat'(first|refine zaB.i (by rw[hgw];rfl) fun _=>?_|refine rq fun _=>?_|simp only[go_sem,h2,hgw,zac,hs,hk,hI0,Tryd.f41])
  refine zai hm kT.out 41000 (lsw [219] [1000061,1000069]) (ι:=zbG vars.length n3 fun _=>True)
   ⟨fun q=>⟨frL [(2,.fz (.sl (vars.map enc))),(3,.rp [.i .i64 s,.sl (m.consts.map enc),.sl (m.rels.map enc)]),(4,.rp [.i .i64 f.kind,.s f.name.l,.sl (f.words.map enc),.sl (f.subs.map enc)]),(8,.arr (41043,2) 1 0 N),(10,.fz (.i .i64 i)),(143,.arr (41043,2) 1 0 N),(144,.fz (.i .i64 N)),(145,.fz (.i .i64 i)),(11,.arr (41150,n) 1 0 vars.length),(14,.ow (41219,g) 1 ((T a).map enc)),(171,.fz (.sl (f.words.map enc))),(172,.fz (.i .i64 f.words.length)),(173,.fz (.i .i64 a)),(16,.fz (.s w.l)),(17,.fz (.i .i64 (fv q.i))),(18,.fz (.i .i64 (I q.i)))],hpL [((41043,2),some ⟨zae ((zaP V N i).map enc),false,false⟩),((41150,n),some ⟨zae ((Dg i).map enc),false,false⟩),((41219,g),some tok)],q.m⟩,fun q=>vars.length-q.i⟩
   ⟨0,n3,by omega,by omega,trivial⟩ (by kernel_rfl) ?_ ?_
  ·refine zag ?_ ?_ ?_<;>simp only[go_sem,hf0,hI0,hs,hk]
   all_goals first|done|rfl|omega
  rintro⟨j,n4,hj,hn4,_⟩
  try simp only at hj hn4
  obtain⟨v,hv⟩:∃v,fv j=v:=⟨_,rfl⟩
  have hcase:(j<vars.length∧v<0)∨(zbp R w=v∧∃z,I j=z∧(((0≤z)=True∧(v<0)=False)∨((0≤z)=False∧(v<0)=True)∨((0≤z)=False∧(v<0)=False))):=by
   rcases Nat.lt_or_ge j vars.length with h|h
   ·by_cases h5:v<0
    ·exact .inl ⟨h,h5⟩
    ·exact .inr ⟨by rw[kft.out j (by omega),hv],_,kI.out j h,.inl ⟨eq_true (by omega),eq_false h5⟩⟩
   ·obtain rfl:j=vars.length:=by omega
    refine .inr ⟨by rw[←hfe,hv], -1,hIe,?_⟩
    by_cases h5:v<0
    ·exact .inr (.inl ⟨eq_false (by decide),eq_true h5⟩)
    ·exact .inr (.inr ⟨eq_false (by decide),eq_false h5⟩)
  rcases hcase with⟨h3,h4⟩|⟨hve,z,hz,hcase⟩
  ·have hs1':=kfs.out j h3 (by omega) (by omega)
   rw[hv]at hs1'
   have e1:=kI.out j h3
   have e4:=kS.out j
   obtain⟨p,hp⟩:∃p,vars.length-1-j=p:=⟨_,rfl⟩
   have hpl2:p<vars.length:=by omega
   have hpl3:p<(Dg i).length:=by omega
   simp only[hp]at hs1' e1
   rw[e1]at e4
   have e2:((0:Int)≤(p:Int))=True:=eq_true (by omega)
   have e3:(v<0)=True:=eq_true h4
   obtain⟨x,hx⟩:∃x,vars[p]=x:=⟨_,rfl⟩
   obtain⟨d,hd⟩:∃d,(Dg i)[p]=d:=⟨_,rfl⟩
   rw[hx,hd]at hs1'
   have hgx:((vars.map enc).getD p FD.nilf)=FD.s x.l:=by rw[zaa hpl2,hx];rfl
   have hgd:(zae ((Dg i).map enc)).getD p .junk= .fz (.i .i64 d):=by rw[zaY,List.getD_eq_getElem?_getD,List.getElem?_map,List.getElem?_eq_getElem hpl3,hd];rfl
   by_cases h6:x=w
   ·have h6':(x=w)=True:=eq_true h6
    rw[if_pos ⟨h4,h6⟩]at hs1'
    repeat'(first|refine zaB.i (by rw[hgx];rfl) fun _=>?_|refine rq fun _=>?_|simp only[go_sem,hs,hk,hv,e1,e2,e3,hgx,hgd,hpl2,hpl3,hDl',h6',zac,Tryd.f41])
    all_goals
     refine⟨⟨j+1,n4,by omega,by omega,trivial⟩,by simp only;omega,?_⟩
     refine zag ?_ ?_ ?_<;>simp only[go_sem,hs1',e4,hk,hs]
     all_goals first|done|rfl|omega
   ·have h6':(x=w)=False:=eq_false h6
    rw[if_neg (fun h=>h6 h.2)]at hs1'
    repeat'(first|refine zaB.i (by rw[hgx];rfl) fun _=>?_|refine rq fun _=>?_|simp only[go_sem,hs,hk,hv,e1,e2,e3,hgx,hgd,hpl2,hpl3,hDl',h6',zac,Tryd.f41])
    all_goals
     refine⟨⟨j+1,n4,by omega,by omega,trivial⟩,by simp only;omega,?_⟩
     refine zag ?_ ?_ ?_<;>simp only[go_sem,hs1',e4,hk,hs]
     all_goals first|done|rfl|omega
  have g0:zft v [] w=v:=zjz (by rw[←hve];exact zlC kRv.out)
  obtain⟨gv,hgv⟩:∃gv:Nat→Int,gv=fun k=>zft v (m.consts.take k) w:=⟨_,rfl⟩
  have hg0:gv 0=v:=by rw[hgv];exact g0
  have hgs:∀k (h:k<m.consts.length),gv (k+1)=if gv k<0∧m.consts[k].name=w then m.consts[k].value else gv k:=fun k h=>by
   rw[hgv]
   simp only
   rw[List.take_succ_eq_append_getElem h,zjy (fun x hx=>kcon.out x (List.mem_of_mem_take hx))]
  have hge:gv m.consts.length=val w:=by
   rw[hgv];simp only[List.take_length];rw[←hve];exact kwe.out w hwm
  have kgs:=Kp.mk hgs
  clear hgs hgv g0
  rcases hcase with⟨c1,c2⟩|⟨c1,c2⟩|⟨c1,c2⟩
  all_goals
   repeat'(first|refine rq fun _=>?_|simp only[go_sem,hs,hk,hv,hz,c1,c2,Tryd.f41])
   refine zai hm kT.out 41000 (lsw [219] [1000061,1000069]) (ι:=zbG m.consts.length n4 fun _=>True)
    ⟨fun q=>⟨frL [(2,.fz (.sl (vars.map enc))),(3,.rp [.i .i64 s,.sl (m.consts.map enc),.sl (m.rels.map enc)]),(4,.rp [.i .i64 f.kind,.s f.name.l,.sl (f.words.map enc),.sl (f.subs.map enc)]),(8,.arr (41043,2) 1 0 N),(10,.fz (.i .i64 i)),(143,.arr (41043,2) 1 0 N),(144,.fz (.i .i64 N)),(145,.fz (.i .i64 i)),(11,.arr (41150,n) 1 0 vars.length),(14,.ow (41219,g) 1 ((T a).map enc)),(171,.fz (.sl (f.words.map enc))),(172,.fz (.i .i64 f.words.length)),(173,.fz (.i .i64 a)),(16,.fz (.s w.l)),(17,.fz (.i .i64 (gv q.i))),(199,.fz (.sl (m.consts.map enc))),(200,.fz (.i .i64 m.consts.length)),(201,.fz (.i .i64 q.i))],hpL [((41043,2),some ⟨zae ((zaP V N i).map enc),false,false⟩),((41150,n),some ⟨zae ((Dg i).map enc),false,false⟩),((41219,g),some tok)],q.m⟩,fun q=>m.consts.length-q.i⟩
    ⟨0,n4,by omega,by omega,trivial⟩ (by kernel_rfl) ?_ ?_
   ·refine zag ?_ ?_ ?_<;>simp only[go_sem,hg0,hs,hk]
    all_goals first|done|rfl|omega
   rintro⟨k,n5,hkk,hn5,_⟩
   try simp only at hkk hn5
   rcases Nat.lt_or_ge k m.consts.length with h3|h3
   ·have hgs:=kgs.out k h3
    obtain⟨x,hx⟩:∃x,m.consts[k]=x:=⟨_,rfl⟩
    obtain⟨u,hu⟩:∃u,gv k=u:=⟨_,rfl⟩
    rw[hx,hu]at hgs
    by_cases h7:u<0
    ·have h7':(u<0)=True:=eq_true h7
     by_cases h8:x.name=w
     ·have h8':(x.name=w)=True:=eq_true h8
      rw[if_pos ⟨h7,h8⟩]at hgs
      repeat'(first|refine rq fun _=>?_|simp only[go_sem,h3,hx,hs,hk,hu,h7',h8',zat,zac,zaa,Tryd.f41])
      all_goals
       refine⟨⟨k+1,n5+2,by omega,by omega,trivial⟩,by simp only;omega,?_⟩
       refine zag ?_ ?_ ?_<;>simp only[go_sem,hgs,hk,hs]
       all_goals first|done|rfl|omega
     ·have h8':(x.name=w)=False:=eq_false h8
      rw[if_neg (fun h=>h8 h.2)]at hgs
      repeat'(first|refine rq fun _=>?_|simp only[go_sem,h3,hx,hs,hk,hu,h7',h8',zat,zac,zaa,Tryd.f41])
      all_goals
       refine⟨⟨k+1,n5+2,by omega,by omega,trivial⟩,by simp only;omega,?_⟩
       refine zag ?_ ?_ ?_<;>simp only[go_sem,hgs,hk,hs]
       all_goals first|done|rfl|omega
    ·have h7':(u<0)=False:=eq_false h7
     rw[if_neg (fun h=>h7 h.1)]at hgs
     repeat'(first|refine rq fun _=>?_|simp only[go_sem,h3,hx,hs,hk,hu,h7',zat,zac,zaa,Tryd.f41])
     all_goals
      refine⟨⟨k+1,n5+2,by omega,by omega,trivial⟩,by simp only;omega,?_⟩
      refine zag ?_ ?_ ?_<;>simp only[go_sem,hgs,hk,hs]
      all_goals first|done|rfl|omega
   obtain rfl:k=m.consts.length:=by omega
   repeat'(first|refine zaB.i (zaL (by first|omega|(simp only[List.length_map,List.length_append,List.length_cons,List.length_nil];omega)) (by decide)) fun _=>?_|refine rq fun _=>?_|simp only[go_sem,Nat.lt_irrefl,hs,hk,hge,Tryd.f41])
   all_goals
    refine⟨⟨a+1,n5,n5+1,by omega,by omega,by omega,trivial⟩,by simp only;omega,?_⟩
    refine zag ?_ ?_ ?_<;>(try simp only[go_sem,hts,hs,hk,List.map_append,List.map_cons,List.map_nil])
    all_goals first|done|rfl|omega
 obtain rfl:a=f.words.length:=by omega
 obtain⟨ts,hts⟩:∃ts,f.words.map val=ts:=⟨_,rfl⟩
 rw[hts]at hTe
 have htl:ts.length=f.words.length:=by rw[←hts,List.length_map]
 have hDv:=kD.out i
 have hvr:∀v∈ts,0≤v∧v<(s:Int):=fun v hv=>by
  rw[←hts]at hv
  obtain⟨w,hw,rfl⟩:=List.mem_map.1 hv
  rw[hval]
  refine zti (P:=fun v=>0≤v∧v<(s:Int)) (fun x hx=>hDv _ (zfP hx)) (fun c hc=>by rw[←hs];exact hcv c hc) ?_
  by_cases hin:w∈vars
  ·exact .inl (by rw[zeX hDl'];exact hin)
  ·refine .inr (hcs w ?_)
   obtain⟨k,nm,ws,s'⟩:=f
   rw[cst,List.mem_append]
   exact .inl (List.mem_filter.2 ⟨hw,decide_eq_true hin⟩)
 have hVi:V i=m.rels.any (zdA f.name f.words.length ts):=by
  rw[zuT hmg.v,hV,←hts,hval,hDg]
  obtain⟨k,nm,ws,s'⟩:=f
  simp only[zaz]at hk
  subst hk
  rw[zxs,hms]
  rfl
 have hset:∀b,(zae (((zaP V N i).set i b).map enc)).set i (.fz (.b true))=zae (((zaP V N i).set i true).map enc):=fun b=>by
  have:=zaV (l:=(zaP V N i).set i b) (i:=i) (a:=true)
  rw[List.set_set]at this
  exact this
 have hol:∀b,((zaP V N i).set i b).length=N:=fun b=>by rw[List.length_set,zbz]
 have hof:=znz (V:=V) h1
 have hoe:(zaP V N i).set i (m.rels.any (zdA f.name f.words.length ts))=zaP V N (i+1):=by rw[←hVi,zck h1]
 obtain⟨Fl,hFl⟩:∃Fl:Nat→Bool,Fl=fun r=>(m.rels.take r).any (zdA f.name f.words.length ts):=⟨_,rfl⟩
 have hF0:Fl 0=false:=by rw[hFl];rfl
 have hFs:∀r (h:r<m.rels.length),Fl (r+1)=(Fl r||zdA f.name f.words.length ts m.rels[r]):=fun r h=>by rw[hFl];exact zbM h
 have hFe:Fl m.rels.length=m.rels.any (zdA f.name f.words.length ts):=by rw[hFl];simp only[List.take_length]
 have hlr:=hmg.v.lr
 have htv:∀q∈m.rels,∀t∈q.tuples,(t.length:Int)=q.arity∧∀v∈t,0≤v∧v<(s:Int):=fun q hq t ht=>by rw[←hs];exact hmg.tv q hq t ht
 have hcp:zm3 ts s:=⟨by omega,by omega,by omega,fun v hv=>by have:=hvr v hv;omega⟩
 have kFs:=Kp.mk hFs
 have ktv:=Kp.mk htv
 have kvr:=Kp.mk hvr
 clear hFs htv hvr hFl hV hVi hDv
 rw[←hFe]at hoe
 repeat'(first|refine rq fun _=>?_|simp only[go_sem,Nat.lt_irrefl,hs,hk,hTe,Tryd.f41])
 refine zai hm kT.out 41000 (lsw [219] [1000061,1000069]) (ι:=zbG m.rels.length n3 fun _=>True)
  ⟨fun q=>⟨frL [(2,.fz (.sl (vars.map enc))),(3,.rp [.i .i64 s,.sl (m.consts.map enc),.sl (m.rels.map enc)]),(4,.rp [.i .i64 f.kind,.s f.name.l,.sl (f.words.map enc),.sl (f.subs.map enc)]),(8,.arr (41043,2) 1 0 N),(10,.fz (.i .i64 i)),(143,.arr (41043,2) 1 0 N),(144,.fz (.i .i64 N)),(145,.fz (.i .i64 i)),(14,.ow (41219,g) 1 (ts.map enc)),(235,.fz (.sl (m.rels.map enc))),(236,.fz (.i .i64 m.rels.length)),(237,.fz (.i .i64 q.i))],hpL [((41043,2),some ⟨zae (((zaP V N i).set i (Fl q.i)).map enc),false,false⟩),((41219,g),some tok)],q.m⟩,fun q=>m.rels.length-q.i⟩
  ⟨0,n3,by omega,by omega,trivial⟩ (by kernel_rfl) ?_ ?_
 ·refine zag ?_ ?_ ?_<;>simp only[go_sem,hF0,hof,hs,hk,hTe]
  all_goals first|done|rfl|omega
 rintro⟨r,n4,hr,hn4,_⟩
 try simp only at hr hn4
 rcases Nat.lt_or_ge r m.rels.length with h2|h2
 rotate_left
 ·obtain rfl:r=m.rels.length:=by omega
  repeat'(first|refine rq fun _=>?_|simp only[go_sem,Nat.lt_irrefl,hs,hk,hoe,Tryd.f41])
  all_goals
   refine⟨⟨i+1,n4+9,by omega,by omega,trivial⟩,by simp only;omega,?_⟩
   refine zag ?_ ?_ ?_<;>simp only[go_sem,hoe,hs,hk]
   all_goals first|done|rfl|omega
 have hfs:=kFs.out r h2
 obtain⟨x,hx⟩:∃x,m.rels[r]=x:=⟨_,rfl⟩
 have hxm:x∈m.rels:=hx▸List.getElem_mem h2
 rw[hx]at hfs
 obtain⟨b,hbF⟩:∃b,Fl r=b:=⟨_,rfl⟩
 rw[hbF]at hfs
 by_cases c1:x.name=f.name
 rotate_left
 ·have c1':(x.name=f.name)=False:=eq_false c1
  have hmm:zdA f.name f.words.length ts x=false:=by unfold zdA;rw[decide_eq_false c1];rfl
  rw[hmm,Bool.or_false]at hfs
  repeat'(first|refine rq fun _=>?_|simp only[go_sem,h2,hx,hs,hk,hbF,c1',zaq,zac,zaa,Tryd.f41])
  all_goals
   refine⟨⟨r+1,n4+2,by omega,by omega,trivial⟩,by simp only;omega,?_⟩
   refine zag ?_ ?_ ?_<;>simp only[go_sem,hfs,hbF,hs,hk]
   all_goals first|done|rfl|omega
 have c1':(x.name=f.name)=True:=eq_true c1
 by_cases c2:x.arity=(ts.length:Int)
 rotate_left
 ·have c2':(x.arity=(ts.length:Int))=False:=eq_false c2
  have c2n:¬x.arity=(f.words.length:Int):=by rw[←htl];exact c2
  have hmm:zdA f.name f.words.length ts x=false:=by unfold zdA;rw[decide_eq_false c2n,Bool.false_and,Bool.and_false]
  rw[hmm,Bool.or_false]at hfs
  repeat'(first|refine rq fun _=>?_|simp only[go_sem,h2,hx,hs,hk,hbF,c1',c2',zaq,zac,zaa,Tryd.f41])
  all_goals
   refine⟨⟨r+1,n4+2,by omega,by omega,trivial⟩,by simp only;omega,?_⟩
   refine zag ?_ ?_ ?_<;>simp only[go_sem,hfs,hbF,hs,hk]
   all_goals first|done|rfl|omega
 have c2':(x.arity=(ts.length:Int))=True:=eq_true c2
 have hxtl:=htlen x hxm
 unfold zba at hxtl
 have c2p:x.arity=(f.words.length:Int):=by rw[←htl];exact c2
 have hmm:zdA f.name f.words.length ts x=x.tuples.any fun t=>decide (t=ts):=by unfold zdA;rw[decide_eq_true c1,decide_eq_true c2p,Bool.true_and,Bool.true_and]
 rw[hmm]at hfs
 obtain⟨Gl,hGl⟩:∃Gl:Nat→Bool,Gl=fun k=>b||(x.tuples.take k).any fun t=>decide (t=ts):=⟨_,rfl⟩
 have hG0:Gl 0=b:=by rw[hGl];simp
 have hGs:∀k (h:k<x.tuples.length),Gl (k+1)=(Gl k||decide (x.tuples[k]=ts)):=fun k h=>by rw[hGl];simp only;rw[zbM h,Bool.or_assoc]
 have hGe:Gl x.tuples.length=Fl (r+1):=by rw[hfs,hGl];simp only[List.take_length]
 have kGs:=Kp.mk hGs
 clear hGs hGl hfs
 repeat'(first|refine rq fun _=>?_|simp only[go_sem,h2,hx,hs,hk,hbF,c1',c2',zaq,zac,zaa,Tryd.f41])
 refine zai hm kT.out 41000 (lsw [219] [1000061,1000069]) (ι:=zbG x.tuples.length (n4+1) fun _=>True)
  ⟨fun q=>⟨frL [(2,.fz (.sl (vars.map enc))),(3,.rp [.i .i64 s,.sl (m.consts.map enc),.sl (m.rels.map enc)]),(4,.rp [.i .i64 f.kind,.s f.name.l,.sl (f.words.map enc),.sl (f.subs.map enc)]),(8,.arr (41043,2) 1 0 N),(10,.fz (.i .i64 i)),(143,.arr (41043,2) 1 0 N),(144,.fz (.i .i64 N)),(145,.fz (.i .i64 i)),(14,.ow (41219,g) 1 (ts.map enc)),(22,.ptr (41022,n4) 0),(235,.fz (.sl (m.rels.map enc))),(236,.fz (.i .i64 m.rels.length)),(237,.fz (.i .i64 r)),(254,.fz (.sl (x.tuples.map enc))),(255,.fz (.i .i64 x.tuples.length)),(256,.fz (.i .i64 q.i))],hpL [((41043,2),some ⟨zae (((zaP V N i).set i (Gl q.i)).map enc),false,false⟩),((41219,g),some tok)],q.m⟩,fun q=>x.tuples.length-q.i⟩
  ⟨0,n4+1,by omega,by omega,trivial⟩ (by kernel_rfl) ?_ ?_
 ·refine zag ?_ ?_ ?_<;>simp only[go_sem,hG0,hbF,hs,hk]
  all_goals first|done|rfl|omega
 rintro⟨k,n5,hkk,hn5,_⟩
 try simp only at hkk hn5
 rcases Nat.lt_or_ge k x.tuples.length with h3|h3
 ·have hgs:=kGs.out k h3
  obtain⟨t,ht⟩:∃t,x.tuples[k]=t:=⟨_,rfl⟩
  have htm:t∈x.tuples:=ht▸List.getElem_mem h3
  rw[ht]at hgs
  obtain⟨e1,e2⟩:=ktv.out x hxm t htm
  have htp:zm3 t s:=⟨by omega,by omega,by omega,fun v hv=>by have:=e2 v hv;omega⟩
  have hgt:((x.tuples.map enc).getD k FD.nilf)=FD.sl (t.map enc):=by rw[zaa h3,ht];rfl
  obtain⟨u,hu⟩:∃u,Gl k=u:=⟨_,rfl⟩
  rw[hu]at hgs
  have hset:=hset u
  by_cases h6:t=ts
  ·have h6':(ze7 (s:Int) t=ze7 (s:Int) ts)=True:=eq_true (by rw[h6])
   rw[decide_eq_true h6,Bool.or_true]at hgs
   repeat'(first|refine zaK hm kT.out 41000 (lsw [219] [1000061,1000069]) zpc (by kernel_rfl) (by kernel_rfl) ?_|refine And.intro ?_ ?_|exact True.intro|refine zaB.i htp fun _=>?_|refine zaB.i hcp fun _=>?_|refine zaB.i (by rw[hgt];rfl) fun _=>?_|refine rq fun _=>?_|simp only[go_sem,h3,hgt,hs,hk,hu,h6',hol,h1,zpc,zaq,zac,Tryd.f41])
   all_goals
    refine⟨⟨k+1,n5+2,by omega,by omega,trivial⟩,by simp only;omega,?_⟩
    refine zag ?_ ?_ ?_<;>simp only[go_sem,hgs,hset,hu,hs,hk]
    all_goals first|done|rfl|omega
  ·have h6':(ze7 (s:Int) t=ze7 (s:Int) ts)=False:=eq_false fun h=>h6 (zot (by omega) t ts 0 0 (by omega) e2 kvr.out h).2
   rw[decide_eq_false h6,Bool.or_false]at hgs
   repeat'(first|refine zaK hm kT.out 41000 (lsw [219] [1000061,1000069]) zpc (by kernel_rfl) (by kernel_rfl) ?_|refine And.intro ?_ ?_|exact True.intro|refine zaB.i htp fun _=>?_|refine zaB.i hcp fun _=>?_|refine zaB.i (by rw[hgt];rfl) fun _=>?_|refine rq fun _=>?_|simp only[go_sem,h3,hgt,hs,hk,hu,h6',hol,h1,zpc,zaq,zac,Tryd.f41])
   all_goals
    refine⟨⟨k+1,n5+2,by omega,by omega,trivial⟩,by simp only;omega,?_⟩
    refine zag ?_ ?_ ?_<;>simp only[go_sem,hgs,hset,hu,hs,hk]
    all_goals first|done|rfl|omega
 obtain rfl:k=x.tuples.length:=by omega
 repeat'(first|refine rq fun _=>?_|simp only[go_sem,Nat.lt_irrefl,hs,hk,hGe,Tryd.f41])
 all_goals
  refine⟨⟨r+1,n5+2,by omega,by omega,trivial⟩,by simp only;omega,?_⟩
  refine zag ?_ ?_ ?_<;>simp only[go_sem,hGe,hs,hk]
  all_goals first|done|rfl|omega
end
end Go.Proofs.YtkkffhphodngkaaDoor
namespace Go.Proofs.YtkkffhphodngkaaDoor
open Go Go.Abs Go.Proofs
section
variable {G:Nat→List FD}
def E4:Tbl:=E3.add 41 (sp3 zcJ zg8)
attribute [go_sem] E4
theorem hE4:zan Tryd.prog G E4:=by
 refine zoZ zaf.size ztq hE3 fun n hT m f vars hn hp hwm _ _=>?_
 have h:=zdm.1 hp.vk
 have hk:f.kind=1∨f.kind=2∨f.kind=3∨f.kind=4∨f.kind=5∨f.kind=6∨f.kind=7∨f.kind=8∨f.kind=9:=by omega
 rcases hk with hk|hk|hk|hk|hk|hk|hk|hk|hk
 ·exact zIc hT hn hp hk
 ·exact zId hT hn hp hwm hk
 ·exact zIe hT hn hp hk
 ·exact zIf hT hn hp hk
 ·exact zIg hT hn hp hk
 ·exact zIh hT hn hp hk
 ·exact zIi hT hn hp hk
 ·exact zIj hT hn hp hk
 ·exact zIk hT hn hp hk
def E5:Tbl:=E4
attribute [go_sem] E5
def E6:Tbl:=E5
attribute [go_sem] E6
end
end Go.Proofs.YtkkffhphodngkaaDoor
