import Derived.Test.YtdlioodgfopmfaaGreatDoorAT
import Derived.Test.YtdlioodgfopmfaaGreatDoorZQ116Q1182
import Derived.Test.YtdlioodgfopmfaaGreatDoorY6
set_option linter.unusedSimpArgs false
namespace Go.Proofs.YtdlioodgfopmfaaGreatDoor
open Go Go.Abs Go.Proofs
def zcz (ns:List Str)(w:Str):Int:=ns.zipIdx.foldl (fun acc p=>if p.1=w then(p.2:Int)else acc) (-1)
theorem zgi {ns:List Str}{w:Str}{i:Nat}(h:i<ns.length):zcz (ns.take (i+1)) w=if ns[i]=w then(i:Int)else zcz (ns.take i) w:=by
 unfold zcz
 rw[List.take_succ_eq_append_getElem h,List.zipIdx_append,List.foldl_append,List.length_take,Nat.min_eq_left (by omega)]
 simp
theorem zg0 (ns:List Str)(w:Str): -1≤zcz ns w∧zcz ns w<ns.length:=by
 have key:∀i,i≤ns.length→ -1≤zcz (ns.take i) w∧zcz (ns.take i) w<i:=by
  intro i
  induction i with
  |zero=>intro _;simp[zcz]
  |succ i ih=>
   intro h
   rw[zgi (by omega)]
   have:=ih (by omega)
   split<;>omega
 have:=key ns.length (Nat.le_refl _)
 rwa [List.take_length]at this
def pwD (p:List Str×List Int)(w:Str):List Str×List Int:=if zcz p.1 w<0 then(p.1++[w],p.2++[(p.1.length:Int)])else p
def pxD (ns:List Str)(w:Str):Int:=if zcz ns w<0 then(ns.length:Int)else zcz ns w
def zpy (old now:Int)(c:Int):Int:=if c=old then now else c
def mrg (p:List Str×List Int)(x y:Int):List Str×List Int:=(p.1,p.2.map (zpy (p.2.getD x.toNat 0) (p.2.getD y.toNat 0)))
def cl2 (p:List Str×List Int)(a b:Str):List Str×List Int:=mrg (pwD (pwD p a) b) (pxD p.1 a) (pxD (pwD p a).1 b)
def cl1 (p:List Str×List Int)(f:Abs.zac):List Str×List Int:=if f.kind=3 then cl2 p (f.words.getD 0 ⟨[]⟩) (f.words.getD 1 ⟨[]⟩)else p
def clD (l:List Abs.zac):List Str×List Int:=l.foldl cl1 ([],[])
theorem zk8 {p:List Str×List Int}{w:Str}(h:p.1.length=p.2.length):(pwD p w).1.length=(pwD p w).2.length∧(pwD p w).1.length≤p.1.length+1:=by
 unfold pwD;split<;>simp[h]
theorem zxx {p:List Str×List Int}{w:Str}:0≤pxD p.1 w∧pxD p.1 w<(pwD p w).1.length:=by
 unfold pxD pwD
 have:=zg0 p.1 w
 split
 ·simp;omega
 ·omega
theorem zwp {p:List Str×List Int}{w:Str}:p.1.length≤(pwD p w).1.length:=by unfold pwD;split<;>simp
theorem zx6 {p:List Str×List Int}{f:Abs.zac}(h:p.1.length=p.2.length):(cl1 p f).1.length=(cl1 p f).2.length∧(cl1 p f).1.length≤p.1.length+2:=by
 unfold cl1
 split
 ·unfold cl2 mrg
  have h1:=zk8 (w:=f.words.getD 0 ⟨[]⟩) h
  have h2:=zk8 (w:=f.words.getD 1 ⟨[]⟩) h1.1
  simp only[List.length_map]
  omega
 ·omega
theorem zo2 {l:List Abs.zac}{i:Nat}(h:i<l.length):clD (l.take (i+1))=cl1 (clD (l.take i)) l[i]:=by
 unfold clD
 rw[List.take_succ_eq_append_getElem h,List.foldl_append];rfl
theorem znV (l:List Abs.zac):∀i,i≤l.length→(clD (l.take i)).1.length=(clD (l.take i)).2.length∧(clD (l.take i)).1.length≤2*i:=by
 intro i
 induction i with
 |zero=>intro _;simp[clD]
 |succ i ih=>
  intro h
  rw[zo2 (by omega)]
  have h1:=ih (by omega)
  have:=zx6 (f:=l[i]) h1.1
  omega
def zmR (p:List Str×List Int)(a b:Str):Nat→(List Str×List Int)×Int×Int
 |0=>(p,0,0)
 |1=>(pwD p a,pxD p.1 a,0)
 |_=>(pwD (pwD p a) b,pxD p.1 a,pxD (pwD p a).1 b)
def reD (cs:List Int)(old now:Int)(j:Nat):List Int:=(cs.take j).map (zpy old now)++cs.drop j
theorem zos {cs:List Int}{old now:Int}{j:Nat}:(reD cs old now j).length=cs.length:=by
 unfold reD;simp;omega
theorem zy2 {cs:List Int}{old now:Int}{j:Nat}(h:j<cs.length):(reD cs old now j).getD j 0=cs.getD j 0:=by
 unfold reD
 rw[List.getD_eq_getElem?_getD,List.getElem?_append_right (by simp;omega)]
 simp[Nat.min_eq_left (Nat.le_of_lt h)]
theorem zwv {cs:List Int}{old now:Int}{j:Nat}(h:j<cs.length):reD cs old now (j+1)=(reD cs old now j).set j (zpy old now cs[j]):=by
 unfold reD
 rw[List.take_succ_eq_append_getElem h,List.map_append,List.set_append_right _ _ (by simp;omega),List.length_map,List.length_take,Nat.min_eq_left (Nat.le_of_lt h),Nat.sub_self,
  List.drop_eq_getElem_cons h,List.set_cons_zero,List.append_assoc]
 rfl
theorem zwu {cs:List Int}{old now:Int}{j:Nat}(h:j<cs.length)(he:cs[j]≠old):reD cs old now (j+1)=reD cs old now j:=by
 unfold reD
 rw[List.take_succ_eq_append_getElem h,List.map_append,List.append_assoc,List.drop_eq_getElem_cons h]
 simp[zpy,he]
theorem zww {cs:List Int}{old now:Int}:reD cs old now 0=cs:=by simp[reD]
theorem ztJ {cs:List Int}{old now:Int}:reD cs old now cs.length=cs.map (zpy old now):=by simp[reD]
structure zwW (n n0:Nat) where
 i:Nat
 g:Nat
 h:Nat
 m:Nat
 hi:i≤n
 hg:g<m
 hh:h<m
 hm:n0≤m
theorem zdD:Tryz.prog.underlying 86=some (.array 2 3):=by kernel_rfl
@[go_sem] theorem zHT:zar Tryz.prog 86=some ⟨2,16,[.fz (.i .i64 0),.fz (.i .i64 0)],.other,true,false,[]⟩:=by kernel_rfl
def O9:Tbl:=O8.add 18 (zCd clD fun l=>(∀f∈l,brF f)∧l.length≤100000)
attribute [go_sem] O9
def zuz:Tv:=(.q 0 (.q 1 (.q 2 (.q 3 (.q 4 (.q 5 (.q 6 (.q 7 (.q 8 (.q 9 (.q 10 (.q 11 .leaf))))))))))))
theorem zvm {fn:FuncId}{args:List D}{ns:List Str}{cs:List Int}(h:zaA Tryz.prog GA fn args (hpL []) 0 (fun d H n'=>∃i1 i2:Abs.Id,i1.2<n'∧i2.2<n'∧d= .tup [.ow i1 1 (ns.map enc),.arr i2 1 0 cs.length]∧H i2=some ⟨zaf (cs.map enc),false,cs.isEmpty⟩)):
  zaA Tryz.prog GA fn args (hpL []) 0 (fun d _ _=>D.val d=some (.tup [.fz (enc ns),.fz (enc cs)])):=by
 refine zbb h ?_
 rintro d H n' ⟨i1,i2,hid1,hid2,rfl,hH⟩
 refine⟨.tup [.fz (.sl (ns.map enc)),.fz (.sl (cs.map enc))],hpL [],n',?_,rfl⟩
 refine zbl [] [] [(i2,cs.map enc)] ?_ ?_ ?_ ?_ ?_<;>(try simp only[go_sem,hH])
 all_goals first|done|omega|(intro h;rw[List.isEmpty_iff]at h;rw[h];rfl)|(refine⟨rfl,?_⟩;intro h;rw[List.isEmpty_iff]at h;rw[h];rfl)
set_option maxRecDepth 100000 in
set_option maxHeartbeats 1000000 in
set_option maxHeartbeats 8000000 in
theorem hO9:zap Tryz.prog GA O9:=by
 refine zt1 zHd hO8 fun l hp _=>?_
 obtain⟨hbr,hsl⟩:=hp
 have kb:=Kp.mk hbr
 clear hbr
 refine zvm ?_
 refine zah (N:=105) hm hO8 18000 (lsw [70] [75,1000011,1000016,1000018,1000019,1000021]) zHd Tryz.func18 rfl rfl (by simp) (by kernel_rfl) ?_
 repeat'(first|refine And.intro ?_ ?_|exact True.intro|refine rq fun _=>?_|simp only[go_sem,List.take_succ_cons,List.take_zero,List.drop_succ_cons,List.drop_zero,Int.toNat_zero,Int.toNat_one,Nat.zero_add,Nat.add_zero,List.set_cons_zero,List.set_cons_succ,Tryz.f18])
 refine zfg hm hO8 18000 (lsw [70] [75,1000011,1000016,1000018,1000019,1000021]) (ι:=zwW l.length 1)
  ⟨fun q=>⟨frL [(0,.fz (.sl (l.map enc))),(4,.ow (18070,q.g) 1 ((clD (l.take q.i)).1.map enc)),(5,.arr (18075,q.h) 1 0 (clD (l.take q.i)).2.length),(13,.fz (.sl (l.map enc))),(14,.fz (.i .i64 l.length)),(15,.fz (.i .i64 q.i))],
   hpL [((18070,q.g),some tok),((18075,q.h),some ⟨zaf ((clD (l.take q.i)).2.map enc),false,(clD (l.take q.i)).2.isEmpty⟩)],q.m⟩,fun q=>l.length-q.i⟩
  ⟨0,0,0,1,by omega,by omega,by omega,by omega⟩ (by kernel_rfl) ?_ ?_
 ·refine zbl [] [(18070,0),(18075,0)] [] ?_ ?_ ?_ ?_ ?_<;>simp only[go_sem,clD,List.take_zero,List.foldl_nil,List.length_nil,List.map_nil,List.isEmpty_nil,zvM]
  all_goals first|done|rfl|omega
 rintro⟨i,g,h,m,hi,hg,hh,hm1⟩
 try simp only at hi hg hh hm1
 obtain⟨hcl,hcb⟩:=znV l i hi
 rcases Nat.lt_or_ge i l.length with h1|h1
 rotate_left
 ·obtain rfl:i=l.length:=by omega
  repeat'(first|refine And.intro ?_ ?_|exact True.intro|refine rq fun _=>?_|simp only[go_sem,Nat.lt_irrefl,List.take_length,List.take_succ_cons,List.take_zero,List.drop_succ_cons,List.drop_zero,Int.toNat_zero,Int.toNat_one,Nat.zero_add,Nat.add_zero,List.set_cons_zero,List.set_cons_succ,Tryz.f18])
  all_goals first|done|exact⟨(18070,g),(18075,h),hg,hh,rfl,by simp only[go_sem]⟩
 obtain⟨x,hx⟩:∃x,l[i]=x:=⟨_,rfl⟩
 have hxb:brF x:=kb.out x (by rw[←hx];exact List.getElem_mem h1)
 have et:clD (l.take (i+1))=cl1 (clD (l.take i)) x:=by rw[zo2 h1,hx]
 obtain⟨p,hp⟩:∃p,clD (l.take i)=p:=⟨_,rfl⟩
 rw[hp]at et hcl hcb
 by_cases hk:x.kind=3
 rotate_left
 ·have el:cl1 p x=p:=by unfold cl1;rw[if_neg hk]
  rw[el]at et
  repeat'(first|refine And.intro ?_ ?_|exact True.intro|refine rq fun _=>?_|simp only[go_sem,h1,hx,hp,hk,zaa,zad,zab,List.take_succ_cons,List.take_zero,List.drop_succ_cons,List.drop_zero,Int.toNat_zero,Int.toNat_one,Nat.zero_add,Nat.add_zero,List.set_cons_zero,List.set_cons_succ,Tryz.f18])
  all_goals refine⟨⟨i+1,g,h,m,by omega,by omega,by omega,by omega⟩,by simp only;omega,?_⟩
  all_goals refine zai ?_ ?_ ?_<;>simp only[go_sem,et]
  all_goals first|done|rfl|omega
 obtain⟨a,b,hab⟩:∃a b,x.words=[a,b]:=by
  have h2:=(zbf.1 hxb.v).2.2.2.1 hk
  match h:x.words,h2 with
  |[a,b],_=>exact⟨a,b,rfl⟩
 have el:cl1 p x=cl2 p a b:=by unfold cl1;rw[if_pos hk,hab];rfl
 rw[el]at et
 clear el hxb
 repeat'(first|refine And.intro ?_ ?_|exact True.intro|refine rq fun _=>?_|simp only[go_sem,h1,hx,hp,hk,zaa,zad,zab,List.take_succ_cons,List.take_zero,List.drop_succ_cons,List.drop_zero,Int.toNat_zero,Int.toNat_one,Nat.zero_add,Nat.add_zero,List.set_cons_zero,List.set_cons_succ,Tryz.f18])
 refine zfg hm hO8 18000 (lsw [70] [75,1000011,1000016,1000018,1000019,1000021]) (ι:=zwW 2 (m+1))
  ⟨fun q=>⟨frL [(0,.fz (.sl (l.map enc))),(4,.ow (18070,q.g) 1 ((zmR p a b q.i).1.1.map enc)),(5,.arr (18075,q.h) 1 0 (zmR p a b q.i).1.2.length),(6,.fz (.i .i64 i)),(7,.ptr (18007,m) 0),(8,.fz (.i .i64 q.i)),(13,.fz (.sl (l.map enc))),(14,.fz (.i .i64 l.length)),(15,.fz (.i .i64 i))],
   hpL [((18070,q.g),some tok),((18075,q.h),some ⟨zaf ((zmR p a b q.i).1.2.map enc),false,(zmR p a b q.i).1.2.isEmpty⟩),((18007,m),some ⟨[.fz (.i .i64 (zmR p a b q.i).2.1),.fz (.i .i64 (zmR p a b q.i).2.2)],true,false⟩)],q.m⟩,fun q=>2-q.i⟩
  ⟨0,g,h,m+1,by omega,by omega,by omega,by omega⟩ (by kernel_rfl) ?_ ?_
 ·refine zai ?_ ?_ ?_<;>simp only[go_sem,zmR,hp]
  all_goals first|done|rfl|omega
 rintro⟨k,g1,g2,m1,hk2,hg1,hg2,hm2⟩
 try simp only at hk2 hg1 hg2 hm2
 have hpl:=zk8 (w:=a) hcl
 have hpl2:=zk8 (w:=b) hpl.1
 have hpx:=zxx (p:=p) (w:=a)
 have hpx2:=zxx (p:=pwD p a) (w:=b)
 have hpm:=zwp (p:=pwD p a) (w:=b)
 by_cases hk0:k=0
 ·subst hk0
  obtain⟨ns,hns⟩:∃n,p.1=n:=⟨_,rfl⟩
  obtain⟨cs,hcs⟩:∃n,p.2=n:=⟨_,rfl⟩
  have hlen:ns.length=cs.length:=by rw[←hns,←hcs];exact hcl
  have hlb:ns.length≤300000:=by rw[←hns];omega
  have hix:=zg0 ns a
  repeat'(first|refine zdI.i (n:=0) (kk:= .i64) zdD ti3 rfl (by decide) rfl rfl (by decide) ?_|refine zbx (rid:=11) hO8 18000 (lsw [70] [75,1000011,1000016,1000018,1000019,1000021]) 1 rfl rfl rfl rfl ?_|refine And.intro ?_ ?_|exact True.intro|refine rq fun _=>?_|simp only[go_sem,h1,hx,hk,hab,zmR,hns,hcs,zaa,zad,zab,List.take_succ_cons,List.take_zero,List.drop_succ_cons,List.drop_zero,Int.toNat_zero,Int.toNat_one,Nat.zero_add,Nat.add_zero,List.set_cons_zero,List.set_cons_succ,Tryz.f18])
  refine zfg hm hO8 18000 (lsw [70] [75,1000011,1000016,1000018,1000019,1000021]) (ι:=zcO ns.length fun _=>True)
   ⟨fun q=>⟨frL [(0,.fz (.sl (l.map enc))),(4,.ow (18070,g1) 1 (ns.map enc)),(5,.arr (18075,g2) 1 0 cs.length),(6,.fz (.i .i64 i)),(7,.ptr (18007,m) 0),(8,.fz (.i .i64 0)),(13,.fz (.sl (l.map enc))),(14,.fz (.i .i64 l.length)),(15,.fz (.i .i64 i)),(31,.fz (.i .i64 ns.length)),(32,.fz (.i .i64 q.i))],
    hpL [((18070,g1),some tok),((18075,g2),some ⟨zaf (cs.map enc),false,cs.isEmpty⟩),((18007,m),some ⟨[.fz (.i .i64 (zcz (ns.take q.i) a)),.fz (.i .i64 0)],true,false⟩)],m1⟩,fun q=>ns.length-q.i⟩
   ⟨0,by omega,trivial⟩ (by kernel_rfl) ?_ ?_
  ·refine zai ?_ ?_ ?_<;>simp only[go_sem,zmR,hns,hcs,zcz,List.take_zero,List.zipIdx_nil,List.foldl_nil]
   all_goals first|done|rfl|omega
  rintro⟨j,hj,_⟩
  try simp only at hj
  rcases Nat.lt_or_ge j ns.length with h2|h2
  ·have vt:=zgi (w:=a) h2
   obtain⟨y,hy⟩:∃y,ns[j]=y:=⟨_,rfl⟩
   rw[hy]at vt
   by_cases cy:y=a
   ·have cyl:(y.l=a.l)=True:=eq_true (by rw[cy])
    rw[if_pos cy]at vt
    repeat'(first|refine zdI.i (n:=0) (kk:= .i64) zdD ti3 rfl (by decide) rfl rfl (by decide) ?_|refine zbx (rid:=16) hO8 18000 (lsw [70] [75,1000011,1000016,1000018,1000019,1000021]) 2 rfl rfl rfl rfl ?_|refine And.intro ?_ ?_|exact True.intro|refine rq fun _=>?_|simp only[go_sem,h1,h2,hx,hy,hk,hab,cyl,zaa,zad,zab,List.take_succ_cons,List.take_zero,List.drop_succ_cons,List.drop_zero,Int.toNat_zero,Int.toNat_one,Nat.zero_add,Nat.add_zero,List.set_cons_zero,List.set_cons_succ,Tryz.f18])
    all_goals refine⟨⟨j+1,by omega,trivial⟩,by simp only;omega,?_⟩
    all_goals refine zai ?_ ?_ ?_<;>simp only[go_sem,vt]
    all_goals first|done|rfl|omega
   ·have cyl:(y.l=a.l)=False:=eq_false fun h=>cy (show(⟨y.l⟩:Str)=⟨a.l⟩ by rw[h])
    rw[if_neg cy]at vt
    repeat'(first|refine zdI.i (n:=0) (kk:= .i64) zdD ti3 rfl (by decide) rfl rfl (by decide) ?_|refine zbx (rid:=16) hO8 18000 (lsw [70] [75,1000011,1000016,1000018,1000019,1000021]) 2 rfl rfl rfl rfl ?_|refine And.intro ?_ ?_|exact True.intro|refine rq fun _=>?_|simp only[go_sem,h1,h2,hx,hy,hk,hab,cyl,zaa,zad,zab,List.take_succ_cons,List.take_zero,List.drop_succ_cons,List.drop_zero,Int.toNat_zero,Int.toNat_one,Nat.zero_add,Nat.add_zero,List.set_cons_zero,List.set_cons_succ,Tryz.f18])
    all_goals refine⟨⟨j+1,by omega,trivial⟩,by simp only;omega,?_⟩
    all_goals refine zai ?_ ?_ ?_<;>simp only[go_sem,vt]
    all_goals first|done|rfl|omega
  obtain rfl:j=ns.length:=by omega
  obtain⟨v,hv⟩:∃v,zcz ns a=v:=⟨_,rfl⟩
  rw[hv]at hix
  by_cases hneg:v<0
  ·have e1:pwD p a=(ns++[a],cs++[(ns.length:Int)]):=by unfold pwD;rw[hns,hcs,hv,if_pos hneg]
   have e2:pxD ns a=ns.length:=by unfold pxD;rw[hv,if_pos hneg]
   have hfl:zaf (cs.map enc)++[D.fz (FD.i IntKind.i64 ns.length)]=zaf (cs.map enc++[FD.i IntKind.i64 ns.length]):=by simp[zaf,FD.cells]
   repeat'(first|refine zdI.i (n:=0) (kk:= .i64) zdD ti3 rfl (by decide) rfl rfl (by decide) ?_|refine zbx (rid:=18) hO8 18000 (lsw [70] [75,1000011,1000016,1000018,1000019,1000021]) 1 rfl rfl rfl rfl ?_|refine zbx (rid:=19) hO8 18000 (lsw [70] [75,1000011,1000016,1000018,1000019,1000021]) 3 rfl rfl rfl rfl ?_|refine rf fun _=>?_|refine zaj.i (by simp only[List.length_map,List.length_take,List.length_append,List.length_cons,List.length_nil];omega) fun _=>?_|refine And.intro ?_ ?_|exact True.intro|refine rq fun _=>?_|simp only[go_sem,Nat.lt_irrefl,List.take_length,hv,hneg,h1,hx,hk,hab,zaa,zad,zab,zms,List.take_succ_cons,List.take_zero,List.drop_succ_cons,List.drop_zero,Int.toNat_zero,Int.toNat_one,Nat.zero_add,Nat.add_zero,List.set_cons_zero,List.set_cons_succ,Tryz.f18])
   all_goals refine⟨⟨1,m1,m1+1,m1+2,by omega,by omega,by omega,by omega⟩,by simp only;omega,?_⟩
   all_goals refine zai ?_ ?_ ?_<;>simp only[go_sem,zmR,hns,e1,e2,List.map_append,List.length_append,List.length_cons,List.length_nil,hfl]
   all_goals first|done|rfl|omega
  ·have e1:pwD p a=(ns,cs):=by unfold pwD;rw[hns,hv,if_neg hneg];rw[←hns,←hcs]
   have e2:pxD ns a=v:=by unfold pxD;rw[hv,if_neg hneg]
   repeat'(first|refine zdI.i (n:=0) (kk:= .i64) zdD ti3 rfl (by decide) rfl rfl (by decide) ?_|refine zbx (rid:=18) hO8 18000 (lsw [70] [75,1000011,1000016,1000018,1000019,1000021]) 1 rfl rfl rfl rfl ?_|refine And.intro ?_ ?_|exact True.intro|refine rq fun _=>?_|simp only[go_sem,Nat.lt_irrefl,List.take_length,hv,hneg,h1,hx,hk,hab,zaa,zad,zab,List.take_succ_cons,List.take_zero,List.drop_succ_cons,List.drop_zero,Int.toNat_zero,Int.toNat_one,Nat.zero_add,Nat.add_zero,List.set_cons_zero,List.set_cons_succ,Tryz.f18])
   all_goals refine⟨⟨1,g1,g2,m1,by omega,by omega,by omega,by omega⟩,by simp only;omega,?_⟩
   all_goals refine zai ?_ ?_ ?_<;>simp only[go_sem,zmR,hns,e1,e2]
   all_goals first|done|rfl|omega
 by_cases hk1:k=1
 ·subst hk1
  obtain⟨X1,hX1⟩:∃X,pxD p.1 a=X:=⟨_,rfl⟩
  obtain⟨P1,hP1⟩:∃P,pwD p a=P:=⟨_,rfl⟩
  rw[hP1]at hpl hpl2 hpx2 hpm
  obtain⟨ns,hns⟩:∃n,P1.1=n:=⟨_,rfl⟩
  obtain⟨cs,hcs⟩:∃n,P1.2=n:=⟨_,rfl⟩
  have hlen:ns.length=cs.length:=by rw[←hns,←hcs];exact hpl.1
  have hlb:ns.length≤300000:=by rw[←hns];omega
  have hix:=zg0 ns b
  repeat'(first|refine zdI.i (n:=1) (kk:= .i64) zdD ti3 rfl (by decide) rfl rfl (by decide) ?_|refine zbx (rid:=11) hO8 18000 (lsw [70] [75,1000011,1000016,1000018,1000019,1000021]) 1 rfl rfl rfl rfl ?_|refine And.intro ?_ ?_|exact True.intro|refine rq fun _=>?_|simp only[go_sem,h1,hx,hk,hab,zmR,hX1,hP1,hns,hcs,zaa,zad,zab,List.take_succ_cons,List.take_zero,List.drop_succ_cons,List.drop_zero,Int.toNat_zero,Int.toNat_one,Nat.zero_add,Nat.add_zero,List.set_cons_zero,List.set_cons_succ,Tryz.f18])
  refine zfg hm hO8 18000 (lsw [70] [75,1000011,1000016,1000018,1000019,1000021]) (ι:=zcO ns.length fun _=>True)
   ⟨fun q=>⟨frL [(0,.fz (.sl (l.map enc))),(4,.ow (18070,g1) 1 (ns.map enc)),(5,.arr (18075,g2) 1 0 cs.length),(6,.fz (.i .i64 i)),(7,.ptr (18007,m) 0),(8,.fz (.i .i64 1)),(13,.fz (.sl (l.map enc))),(14,.fz (.i .i64 l.length)),(15,.fz (.i .i64 i)),(31,.fz (.i .i64 ns.length)),(32,.fz (.i .i64 q.i))],
    hpL [((18070,g1),some tok),((18075,g2),some ⟨zaf (cs.map enc),false,cs.isEmpty⟩),((18007,m),some ⟨[.fz (.i .i64 X1),.fz (.i .i64 (zcz (ns.take q.i) b))],true,false⟩)],m1⟩,fun q=>ns.length-q.i⟩
   ⟨0,by omega,trivial⟩ (by kernel_rfl) ?_ ?_
  ·refine zai ?_ ?_ ?_<;>simp only[go_sem,zmR,hX1,hP1,hns,hcs,zcz,List.take_zero,List.zipIdx_nil,List.foldl_nil]
   all_goals first|done|rfl|omega
  rintro⟨j,hj,_⟩
  try simp only at hj
  rcases Nat.lt_or_ge j ns.length with h2|h2
  ·have vt:=zgi (w:=b) h2
   obtain⟨y,hy⟩:∃y,ns[j]=y:=⟨_,rfl⟩
   rw[hy]at vt
   by_cases cy:y=b
   ·have cyl:(y.l=b.l)=True:=eq_true (by rw[cy])
    rw[if_pos cy]at vt
    repeat'(first|refine zdI.i (n:=1) (kk:= .i64) zdD ti3 rfl (by decide) rfl rfl (by decide) ?_|refine zbx (rid:=16) hO8 18000 (lsw [70] [75,1000011,1000016,1000018,1000019,1000021]) 2 rfl rfl rfl rfl ?_|refine And.intro ?_ ?_|exact True.intro|refine rq fun _=>?_|simp only[go_sem,h1,h2,hx,hy,hk,hab,cyl,zaa,zad,zab,List.take_succ_cons,List.take_zero,List.drop_succ_cons,List.drop_zero,Int.toNat_zero,Int.toNat_one,Nat.zero_add,Nat.add_zero,List.set_cons_zero,List.set_cons_succ,Tryz.f18])
    all_goals refine⟨⟨j+1,by omega,trivial⟩,by simp only;omega,?_⟩
    all_goals refine zai ?_ ?_ ?_<;>simp only[go_sem,vt]
    all_goals first|done|rfl|omega
   ·have cyl:(y.l=b.l)=False:=eq_false fun h=>cy (show(⟨y.l⟩:Str)=⟨b.l⟩ by rw[h])
    rw[if_neg cy]at vt
    repeat'(first|refine zdI.i (n:=1) (kk:= .i64) zdD ti3 rfl (by decide) rfl rfl (by decide) ?_|refine zbx (rid:=16) hO8 18000 (lsw [70] [75,1000011,1000016,1000018,1000019,1000021]) 2 rfl rfl rfl rfl ?_|refine And.intro ?_ ?_|exact True.intro|refine rq fun _=>?_|simp only[go_sem,h1,h2,hx,hy,hk,hab,cyl,zaa,zad,zab,List.take_succ_cons,List.take_zero,List.drop_succ_cons,List.drop_zero,Int.toNat_zero,Int.toNat_one,Nat.zero_add,Nat.add_zero,List.set_cons_zero,List.set_cons_succ,Tryz.f18])
    all_goals refine⟨⟨j+1,by omega,trivial⟩,by simp only;omega,?_⟩
    all_goals refine zai ?_ ?_ ?_<;>simp only[go_sem,vt]
    all_goals first|done|rfl|omega
  obtain rfl:j=ns.length:=by omega
  obtain⟨v,hv⟩:∃v,zcz ns b=v:=⟨_,rfl⟩
  rw[hv]at hix
  by_cases hneg:v<0
  ·have e1:pwD P1 b=(ns++[b],cs++[(ns.length:Int)]):=by unfold pwD;rw[hns,hcs,hv,if_pos hneg]
   have e2:pxD ns b=ns.length:=by unfold pxD;rw[hv,if_pos hneg]
   have hfl:zaf (cs.map enc)++[D.fz (FD.i IntKind.i64 ns.length)]=zaf (cs.map enc++[FD.i IntKind.i64 ns.length]):=by simp[zaf,FD.cells]
   repeat'(first|refine zdI.i (n:=1) (kk:= .i64) zdD ti3 rfl (by decide) rfl rfl (by decide) ?_|refine zbx (rid:=18) hO8 18000 (lsw [70] [75,1000011,1000016,1000018,1000019,1000021]) 1 rfl rfl rfl rfl ?_|refine zbx (rid:=19) hO8 18000 (lsw [70] [75,1000011,1000016,1000018,1000019,1000021]) 3 rfl rfl rfl rfl ?_|refine rf fun _=>?_|refine zaj.i (by simp only[List.length_map,List.length_take,List.length_append,List.length_cons,List.length_nil];omega) fun _=>?_|refine And.intro ?_ ?_|exact True.intro|refine rq fun _=>?_|simp only[go_sem,Nat.lt_irrefl,List.take_length,hv,hneg,h1,hx,hk,hab,zaa,zad,zab,zms,List.take_succ_cons,List.take_zero,List.drop_succ_cons,List.drop_zero,Int.toNat_zero,Int.toNat_one,Nat.zero_add,Nat.add_zero,List.set_cons_zero,List.set_cons_succ,Tryz.f18])
   all_goals refine⟨⟨2,m1,m1+1,m1+2,by omega,by omega,by omega,by omega⟩,by simp only;omega,?_⟩
   all_goals refine zai ?_ ?_ ?_<;>simp only[go_sem,zmR,hX1,hP1,hns,e1,e2,List.map_append,List.length_append,List.length_cons,List.length_nil,hfl]
   all_goals first|done|rfl|omega
  ·have e1:pwD P1 b=(ns,cs):=by unfold pwD;rw[hns,hv,if_neg hneg];rw[←hns,←hcs]
   have e2:pxD ns b=v:=by unfold pxD;rw[hv,if_neg hneg]
   repeat'(first|refine zdI.i (n:=1) (kk:= .i64) zdD ti3 rfl (by decide) rfl rfl (by decide) ?_|refine zbx (rid:=18) hO8 18000 (lsw [70] [75,1000011,1000016,1000018,1000019,1000021]) 1 rfl rfl rfl rfl ?_|refine And.intro ?_ ?_|exact True.intro|refine rq fun _=>?_|simp only[go_sem,Nat.lt_irrefl,List.take_length,hv,hneg,h1,hx,hk,hab,zaa,zad,zab,List.take_succ_cons,List.take_zero,List.drop_succ_cons,List.drop_zero,Int.toNat_zero,Int.toNat_one,Nat.zero_add,Nat.add_zero,List.set_cons_zero,List.set_cons_succ,Tryz.f18])
   all_goals refine⟨⟨2,g1,g2,m1,by omega,by omega,by omega,by omega⟩,by simp only;omega,?_⟩
   all_goals refine zai ?_ ?_ ?_<;>simp only[go_sem,zmR,hX1,hP1,hns,e1,e2]
   all_goals first|done|rfl|omega
 obtain rfl:k=2:=by omega
 obtain⟨P2,hP2⟩:∃P,pwD (pwD p a) b=P:=⟨_,rfl⟩
 obtain⟨X,hX⟩:∃X,pxD p.1 a=X:=⟨_,rfl⟩
 obtain⟨Y,hY⟩:∃X,pxD (pwD p a).1 b=X:=⟨_,rfl⟩
 have ec2:cl2 p a b=mrg P2 X Y:=by unfold cl2;rw[hP2,hX,hY]
 rw[ec2]at et
 rw[hP2]at hpl2 hpx2 hpm
 rw[hX]at hpx
 rw[hY]at hpx2
 obtain⟨ns,hns⟩:∃n,P2.1=n:=⟨_,rfl⟩
 obtain⟨cs,hcs⟩:∃n,P2.2=n:=⟨_,rfl⟩
 rw[hns,hcs]at hpl2
 rw[hns]at hpx2 hpm
 have hXl:X.toNat<cs.length:=by omega
 have hYl:Y.toNat<cs.length:=by omega
 obtain⟨old,hold⟩:∃v,cs[X.toNat]=v:=⟨_,rfl⟩
 obtain⟨now,hnow⟩:∃v,cs[Y.toNat]=v:=⟨_,rfl⟩
 have gx:(zaf (cs.map enc)).getD X.toNat .junk= .fz (.i .i64 old):=by rw[zgc hXl,hold];rfl
 have gy:(zaf (cs.map enc)).getD Y.toNat .junk= .fz (.i .i64 now):=by rw[zgc hYl,hnow];rfl
 have em:mrg P2 X Y=(ns,cs.map (zpy old now)):=by
  unfold mrg
  rw[hns,hcs,List.getD_eq_getElem?_getD,List.getD_eq_getElem?_getD,List.getElem?_eq_getElem hXl,List.getElem?_eq_getElem hYl,hold,hnow];rfl
 rw[em]at et
 have hne:cs.isEmpty=false:=by cases cs with
  |nil=>simp at hXl
  |cons _ _=>rfl
 have hX0:0≤X:=hpx.1
 have hY0:0≤Y:=hpx2.1
 have hX2:X<cs.length:=by omega
 have hY2:Y<cs.length:=by omega
 repeat'(first|refine zu3 (rid:=21) hm hO8 18000 (lsw [70] [75,1000011,1000016,1000018,1000019,1000021]) 7 86 30 rfl zdD ti3 rfl zJ4 rfl (fun f hf=>by rcases(show f=0∨f=1 by omega)with rfl|rfl<;>exact⟨_,_,rfl,ti3,by decide⟩) (by kernel_rfl) zuz (by kernel_rfl) (by kernel_rfl) ?_|refine zaj.i ⟨hX0,hX2,rfl⟩ fun _=>?_|refine zaj.i ⟨hY0,hY2,rfl⟩ fun _=>?_|refine And.intro ?_ ?_|exact True.intro|refine rq fun _=>?_|simp only[go_sem,zmR,hP2,hX,hY,hns,hcs,gx,gy,hne,h1,hx,hk,hab,zaa,zad,zab,zfH,List.map_toArray,List.map_cons,List.map_nil,zuz,Nat.lt_irrefl,List.take_succ_cons,List.take_zero,List.drop_succ_cons,List.drop_zero,Int.toNat_zero,Int.toNat_one,Nat.zero_add,Nat.add_zero,List.set_cons_zero,List.set_cons_succ,Tryz.f18])
 refine zfg hm hO8 18000 (lsw [70] [75,1000011,1000016,1000018,1000019,1000021]) (ι:=zcO cs.length fun _=>True)
  ⟨fun q=>⟨frL [(0,.fz (.sl (l.map enc))),(4,.ow (18070,g1) 1 (ns.map enc)),(5,.arr (18075,g2) 1 0 cs.length),(10,.fz (.i .i64 old)),(11,.fz (.i .i64 now)),(13,.fz (.sl (l.map enc))),(14,.fz (.i .i64 l.length)),(15,.fz (.i .i64 i)),(87,.fz (.i .i64 cs.length)),(88,.fz (.i .i64 q.i))],
   hpL [((18070,g1),some tok),((18075,g2),some ⟨zaf ((reD cs old now q.i).map enc),false,false⟩)],m1⟩,fun q=>cs.length-q.i⟩
  ⟨0,by omega,trivial⟩ (by kernel_rfl) ?_ ?_
 ·refine zai ?_ ?_ ?_<;>simp only[go_sem,zmR,hP2,hns,hcs,hne,zww]
  all_goals first|done|rfl|omega
 rintro⟨j,hj,_⟩
 try simp only at hj
 rcases Nat.lt_or_ge j cs.length with h2|h2
 ·obtain⟨z,hz⟩:∃z,cs[j]=z:=⟨_,rfl⟩
  have gz:(zaf ((reD cs old now j).map enc)).getD j .junk= .fz (.i .i64 z):=by
   have h3:j<(reD cs old now j).length:=by rw[zos];exact h2
   rw[zgc h3]
   have:=zy2 (cs:=cs) (old:=old) (now:=now) h2
   rw[List.getD_eq_getElem?_getD,List.getElem?_eq_getElem h3,List.getD_eq_getElem?_getD,List.getElem?_eq_getElem h2,Option.getD_some,Option.getD_some,hz]at this
   rw[this];rfl
  have hjj:((j:Int)).toNat=j:=by omega
  have es:=zwv (old:=old) (now:=now) h2
  by_cases hzo:z=old
  ·have hst:(zaf ((reD cs old now j).map enc)).set j (.fz (.i .i64 now))=zaf ((reD cs old now (j+1)).map enc):=by
    rw[es,hz,←zpe]
    unfold zpy;rw[if_pos hzo];rfl
   repeat'(first|refine And.intro ?_ ?_|exact True.intro|refine rq fun _=>?_|simp only[go_sem,h1,h2,hjj,hzo,gz,zos,zaa,List.take_succ_cons,List.take_zero,List.drop_succ_cons,List.drop_zero,Int.toNat_zero,Int.toNat_one,Nat.zero_add,Nat.add_zero,List.set_cons_zero,List.set_cons_succ,Tryz.f18])
   all_goals refine⟨⟨j+1,by omega,trivial⟩,by simp only;omega,?_⟩
   all_goals refine zai ?_ ?_ ?_<;>simp only[go_sem,hst]
   all_goals first|done|rfl|omega
  ·have hst:=zwu (now:=now) h2 (by rw[hz];exact hzo)
   repeat'(first|refine And.intro ?_ ?_|exact True.intro|refine rq fun _=>?_|simp only[go_sem,h1,h2,hjj,hzo,gz,zos,zaa,List.take_succ_cons,List.take_zero,List.drop_succ_cons,List.drop_zero,Int.toNat_zero,Int.toNat_one,Nat.zero_add,Nat.add_zero,List.set_cons_zero,List.set_cons_succ,Tryz.f18])
   all_goals refine⟨⟨j+1,by omega,trivial⟩,by simp only;omega,?_⟩
   all_goals refine zai ?_ ?_ ?_<;>simp only[go_sem,hst]
   all_goals first|done|rfl|omega
 obtain rfl:j=cs.length:=by omega
 have hme:(cs.map (zpy old now)).isEmpty=false:=by rw[List.isEmpty_map];exact hne
 repeat'(first|refine And.intro ?_ ?_|exact True.intro|refine rq fun _=>?_|simp only[go_sem,Nat.lt_irrefl,ztJ,List.take_succ_cons,List.take_zero,List.drop_succ_cons,List.drop_zero,Int.toNat_zero,Int.toNat_one,Nat.zero_add,Nat.add_zero,List.set_cons_zero,List.set_cons_succ,Tryz.f18])
 all_goals refine⟨⟨i+1,g1,g2,m1,by omega,by omega,by omega,by omega⟩,by simp only;omega,?_⟩
 all_goals refine zai ?_ ?_ ?_<;>simp only[go_sem,et,hme,ztJ,List.length_map]
 all_goals first|done|rfl|omega
end Go.Proofs.YtdlioodgfopmfaaGreatDoor
