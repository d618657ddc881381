import Derived.Test.YtkkffhphodngkaaDoorAT
import Derived.Test.YtkkffhphodngkaaDoorQ95
import Derived.Test.YtkkffhphodngkaaDoorTB
set_option linter.unusedSimpArgs false
namespace Go.Proofs.YtkkffhphodngkaaDoor
open Go Go.Abs Go.Proofs
section
variable {G:Nat→List FD}
theorem zf2 {n:Nat}{d:D}:(List.range n).map (fun j=>[d].getD (j % 1) .junk)=List.replicate n d:=by
 simp[Nat.mod_one,List.map_const']
theorem zbQ {n:Nat}:List.replicate n (D.fz (.b false))=zad ((List.replicate n false).map enc):=by
 rw[zaQ];simp[zsS]
theorem zcR {fn:FuncId}{args:List D}{xs:List Bool}(h:zaw Tryd.prog G fn args (hpL []) 0 (fun d H n'=>∃id:Abs.Id,id.2<n'∧d= .arr id 1 0 xs.length∧H id=some ⟨zad (xs.map enc),false,false⟩)):
  zaw Tryd.prog G fn args (hpL []) 0 (fun d _ _=>D.val d=some (.fz (enc xs))):=by
 refine zck h ?_
 rintro d H n' ⟨id,hid,rfl,hH⟩
 refine⟨.fz (.sl (xs.map enc)),hpL [],n',?_,rfl⟩
 refine zcu [] [] [(id,xs.map enc)] ?_ ?_ ?_ ?_ ?_<;>(try simp only[go_sem,hH])
 all_goals first|done|omega
structure zgS (m:zal)(f:Abs.zac)(vars:List Str):Prop where
 gd:zy5 m
 vk:vok f
 sz:szP f
 nl:vars.length+zaY f≤6
 cs:∀c∈cst f vars,(zcl m c).isSome=true
set_option maxRecDepth 100000 in
set_option maxHeartbeats 1000000 in
set_option maxHeartbeats 4000000 in
theorem zGM {n:Nat}(hT:zap Tryd.prog G (E3.add 41 (sp3 zcz fun m f vs=>f.size<n∧zgS m f vs))){m:zal}{f:Abs.zac}{vars:List Str}(hn:f.size=n)(hp:zgS m f vars)(hk:f.kind=1):zaw Tryd.prog G 41 [.fz (enc m),.fz (enc f),.fz (enc vars)] (hpL []) 0 (fun d _ _=>D.val d=some (.fz (enc (zcz m f vars)))):=by
 obtain⟨V,hV⟩:∃V:Nat→Bool,V=zb5 m f vars:=⟨_,rfl⟩
 obtain⟨s,hs⟩:∃s:Nat,m.size=(s:Int):=⟨m.size.toNat,by have:=hp.gd.v.s1;omega⟩
 have me:zal.mk (s:Int) m.consts m.rels=m:=by rw[←hs]
 have hs1:1≤s:=by have:=hp.gd.v.s1;omega
 have hs6:s≤6:=by have:=hp.gd.v.s6;omega
 have hvl:vars.length≤6:=by have:=hp.nl;omega
 obtain⟨W,hW⟩:∃W:Nat→Nat,W=fun i=>s^i:=⟨_,rfl⟩
 have hW0:W 0=1:=by rw[hW];rfl
 have hWs:∀i,(W i:Int)*(s:Int)=(W (i+1):Int):=fun i=>by rw[hW];simp only;rw[Nat.pow_succ];simp
 have hWl:∀i,i≤6→W i≤46656:=fun i h=>by
  rw[hW]
  exact Nat.le_trans (Nat.pow_le_pow_left hs6 i) (Nat.pow_le_pow_right (by omega) h)
 obtain⟨N,hN⟩:∃N,W vars.length=N:=⟨_,rfl⟩
 have hNl:N≤46656:=by rw[←hN];exact hWl _ hvl
 have hT':zcz m f vars=(List.range N).map V:=by
  unfold zcz
  rw[hV,←hN,hW,hs];rfl
 have hP0:=zbH V N
 rw[hT',←zcb V N]
 refine zcR ?_
 have hpl:∀i,(zaL V N i).length=N:=fun i=>zbo V N i
 have kT:=Kp.mk hT
 have kW:=Kp.mk hWs
 have kl:=Kp.mk hWl
 clear hT hT' hW hWs hWl
 refine zah (N:=345) hm kT.out 41000 (lst []) zsm Tryd.func41 rfl rfl (by simp) (by kernel_rfl) ?_
 repeat'(first|refine rq fun _=>?_|simp only[go_sem,hs,Tryd.f41])
 refine zak hm kT.out 41000 (lst []) (ι:=zbL vars.length fun _=>True)
  ⟨fun q=>⟨frL [(2,.fz (.sl (vars.map enc))),(3,.ptr (41003,0) 0),(4,.ptr (41004,1) 0),(7,.fz (.i .i64 (W q.i:Nat))),(34,.fz (.i .i64 vars.length)),(35,.fz (.i .i64 q.i))],hpL [((41003,0),some ⟨[.fz (.i .i64 s),.fz (.sl (m.consts.map enc)),.fz (.sl (m.rels.map enc))],true,false⟩),((41004,1),some ⟨[.fz (.i .i64 f.kind),.fz (.s f.name.l),.fz (.sl (f.words.map enc)),.fz (.sl (f.subs.map enc))],true,false⟩)],2⟩,fun q=>vars.length-q.i⟩
  ⟨0,by omega,trivial⟩ (by kernel_rfl) ?_ ?_
 ·refine zaf ?_ ?_ ?_<;>simp only[go_sem,hW0,hs]
  all_goals first|done|rfl|omega
 rintro⟨i,hi,_⟩
 try simp only at hi
 rcases Nat.lt_or_ge i vars.length with h1|h1
 ·have hws:=kW.out i
  have hwl:=kl.out (i+1) (by omega)
  repeat'(first|refine rq fun _=>?_|simp only[go_sem,h1,hws,Tryd.f41])
  refine⟨⟨i+1,by omega,trivial⟩,by simp only;omega,?_⟩
  refine zaf ?_ ?_ ?_<;>simp only[go_sem,hws]
  all_goals first|done|rfl|omega
 obtain rfl:i=vars.length:=by omega
 have hV1:∀i,V i=true:=fun i=>by
  rw[hV]
  obtain⟨a,b,c,d⟩:=f
  simp only[zax]at hk
  subst hk
  exact zwa m b c d vars i
 have kV:=Kp.mk hV1
 clear hV1 hV hp hn
 repeat'(first|refine rq fun _=>?_|simp only[go_sem,Nat.lt_irrefl,hN,hk,zf2,zbQ,←hP0,Tryd.f41])
 refine zak hm kT.out 41000 (lst []) (ι:=zbL N fun _=>True)
  ⟨fun q=>⟨frL [(2,.fz (.sl (vars.map enc))),(3,.ptr (41003,0) 0),(4,.ptr (41004,1) 0),(8,.arr (41043,2) 1 0 N),(131,.arr (41043,2) 1 0 N),(132,.fz (.i .i64 N)),(133,.fz (.i .i64 q.i))],hpL [((41003,0),some ⟨[.fz (.i .i64 s),.fz (.sl (m.consts.map enc)),.fz (.sl (m.rels.map enc))],true,false⟩),((41004,1),some ⟨[.fz (.i .i64 f.kind),.fz (.s f.name.l),.fz (.sl (f.words.map enc)),.fz (.sl (f.subs.map enc))],true,false⟩),((41043,2),some ⟨zad ((zaL V N q.i).map enc),false,false⟩)],3⟩,fun q=>N-q.i⟩
  ⟨0,by omega,trivial⟩ (by kernel_rfl) ?_ ?_
 ·refine zaf ?_ ?_ ?_<;>simp only[go_sem,hk]
  all_goals first|done|rfl|omega
 rintro⟨i,hi,_⟩
 try simp only at hi
 rcases Nat.lt_or_ge i N with h1|h1
 ·have hset:(zad ((zaL V N i).map enc)).set i (.fz (.b true))=zad ((zaL V N (i+1)).map enc):=by
   rw[←zcc h1,←zbD,kV.out];rfl
  repeat'(first|refine rq fun _=>?_|simp only[go_sem,h1,hpl,Tryd.f41])
  refine⟨⟨i+1,by omega,trivial⟩,by simp only;omega,?_⟩
  refine zaf ?_ ?_ ?_<;>simp only[go_sem,hset,hk]
  all_goals first|done|rfl|omega
 obtain rfl:i=N:=by omega
 repeat'(first|refine rq fun _=>?_|simp only[go_sem,Nat.lt_irrefl,hpl,Tryd.f41])
 exact⟨(41043,2),by simp only;omega,rfl,by simp only[go_sem]⟩
end
end Go.Proofs.YtkkffhphodngkaaDoor
