import Derived.Test.YtdlioodgfopmfaaGreatDoorAT
import Derived.Test.YtdlioodgfopmfaaGreatDoorZQ141Q1238
import Derived.Test.YtdlioodgfopmfaaGreatDoorGW
import Derived.Test.YtdlioodgfopmfaaGreatDoorST
import Derived.Test.YtdlioodgfopmfaaGreatDoorPY
import Derived.Test.YtdlioodgfopmfaaGreatDoorY7
set_option linter.unusedSimpArgs false
namespace Go.Proofs.YtdlioodgfopmfaaGreatDoor
open Go Go.Abs Go.Proofs
theorem zt4:∀(l:List Abs.zac) (out:List Str),zrJ out→zrJ (l.foldl (fun out f=>(zgR f [] []).foldl zeh out) out)
 |[],_,h=>h
 |f::l,out,h=>zt4 l _ (zpE (zgR f [] []) out h)
theorem zh9 (l:List Abs.zac):acM l=za6 l:=by
 refine zt5 (zt4 l [] List.Pairwise.nil) (zpD _) fun x=>?_
 rw[ztl,ziO]
 constructor
 ·rintro⟨f,hf,h⟩;exact⟨f,hf,(zbz f x).2 h⟩
 ·rintro⟨f,hf,h⟩;exact⟨f,hf,(zbz f x).1 h⟩
theorem zi8:∀xs:List FD,D.toFDs (xs.map .fz)=some xs
 |[]=>rfl
 |x::xs=>by rw[List.map_cons,D.toFDs,zi8 xs];rfl
theorem zmq {xs ys:List FD}:zaf (xs++ys)=zaf xs++zaf ys:=by simp[zaf]
theorem zjG {i:Nat}{r:Res}:zcE (zlM i r)=zcE r:=rfl
theorem zjH {i:Nat}{nm:Str}{r:Res}:zcE (ziy i nm r)=zcE r:=rfl
theorem zdK {a:Int}:zcE (zjR a)=2:=rfl
theorem zcZ {a:Int}:(zjR a).added=a:=rfl
theorem zia {i:Nat}{r:Res}:(zlM i r).added=r.added:=rfl
theorem zib {i:Nat}{nm:Str}{r:Res}:(ziy i nm r).added=r.added:=rfl
theorem zkx {p:Prf}{a:Int}:zcE ⟨p,false,false,a⟩=0:=rfl
theorem zoi (l:List zhO):zbC (l.map enc) 2:=fun x hx=>by obtain⟨d,_,rfl⟩:=List.mem_map.1 hx;rfl
theorem zhQ {p:Prf}{l:Bool}{a:Int}:zcE ⟨p,true,l,a⟩=1:=rfl
def zaH:Tv:=(.q 0 (.q 1 (.q 6 (.q 7 (.q 9 (.q 11 (.q 12 (.q 13 (.q 14 (.br [(2,(.q 3 (.q 4 (.br [(5,(.br [(8,(.br [(10,(.br [(15,(.q 16 .leaf))]))]))]))])))),(3,(.q 4 (.br [(2,(.br [(5,(.br [(8,(.br [(10,(.br [(15,(.q 16 .leaf))]))]))]))]))])))]))))))))))
def zaG:Tv:=(.q 0 (.q 1 (.q 2 (.q 3 (.q 4 (.q 5 (.q 6 (.q 7 (.q 8 (.q 9 .leaf))))))))))
theorem zAU {l2:List Abs.zac}{u2:List Bool}{made:List zhO}{r uses a2:Int}{res:Res}{H:zaw}{n g len es:Nat}{id:Abs.Id}{v:Bool}{xs:List FD}{cells:List D}{R:D→zaw→Nat→Prop}
  (hrun:zaA Tryz.prog GA 17 [.fz (enc l2),.fz (enc u2),.fz (enc made),.fz (.i .i64 r),.fz (.i .i64 uses),.ptr (7,0) 0] (hpL [((7,0),some ⟨[.fz (.i .i64 a2)],true,false⟩)]) 1 (fun d H' _=>D.val d=some (.fz (.i .i64 (zcE res)))∧H' (7,0)=some ⟨[FD.i .i64 res.added].map .fz,true,false⟩))
  (hx:xs=l2.map enc)(ho:H (17158,g)=some ⟨cells,false,v⟩)(hc:cells=zaf (u2.map enc))(hv:v=true→u2=[])(hl:len=u2.length)(hs:H (7,0)=some ⟨[.fz (.i .i64 a2)],true,false⟩)
  (hR:R (.fz (.i .i64 (zcE res))) (zaK (zaK H (17158,g) none) (7,0) (some ⟨[.fz (.i .i64 res.added)],true,false⟩)) n):
  zaA Tryz.prog GA 17 [.ow id es xs,.arr (17158,g) 1 0 len,.fz (.sl (made.map enc)),.fz (.i .i64 r),.fz (.i .i64 uses),.ptr (7,0) 0] H n R:=by
 subst hl hx hc
 rw[zaQ]at ho
 refine zeS (17158,g) (u2.map enc) ho (fun h=>by rw[hv h];rfl) (by rw[show(u2.map fun a=>D.fz (enc a))=(u2.map enc).map .fz by rw[List.map_map];rfl];exact zi8 _) (fun x hx=>by obtain⟨y,_,rfl⟩:=List.mem_map.1 hx;rfl) (args':=[.ow id es (l2.map enc),.fz (.sl (u2.map enc)),.fz (.sl (made.map enc)),.fz (.i .i64 r),.fz (.i .i64 uses),.ptr (7,0) 0]) ?_ ?_
 ·simp only[zpg,fzD,List.length_map,and_self,if_true]
 ·refine zer (T:=7) (ds:=[.ow id es (l2.map enc),.fz (.sl (u2.map enc)),.fz (.sl (made.map enc)),.fz (.i .i64 r),.fz (.i .i64 uses)]) (xs:=[.sl (l2.map enc),.sl (u2.map enc),.sl (made.map enc),.i .i64 r,.i .i64 uses]) (cs:=[.i .i64 a2]) (cs':=[.i .i64 res.added]) rfl hrun ?_ hR
  unfold zaK
  rw[if_neg (by simp)]
  exact hs
structure zAq (n n0:Nat)(p:Nat→Prop) where
 i:Nat
 g1:Nat
 g2:Nat
 m:Nat
 hi:i≤n
 h1:g1<m
 h2:g2<m
 hm:n0≤m
 hp:p i
structure zwV (n n0:Nat)(p:Nat→List Abs.zac→List Bool→List zhO→List Prf→Int→Prop) where
 i:Nat
 lm:List Abs.zac
 um:List Bool
 al:List zhO
 st:List Prf
 ad:Int
 g1:Nat
 g2:Nat
 g3:Nat
 m:Nat
 hi:i≤n
 h1:g1<m
 h2:g2<m
 h3:g3<m
 hm:n0≤m
 hp:p i lm um al st ad
structure zCx (uses a r:Int)(l:List Abs.zac)(made:List zhO)(lm:List Abs.zac)(um:List Bool)(al:List zhO)(st:List Prf)(ad:Int):Prop where
 ok:zb9 uses (brD lm um al (r+1)) ad
 bf:zgM lm
 dn:zs1 al lm.length
 ln:lm.length=l.length+st.length
 gd:∀d∈made,d∈al
 all:(al.length:Int)≤ad
 ad1:a+st.length≤ad
structure zAp (n n0:Nat)(p:Nat→Int→Prop) where
 i:Nat
 a:Int
 m:Nat
 hi:i≤n
 hm:n0≤m
 hp:p i a
def zwP:List Int:=[1,4,2]
def zyx (uses:Int)(rec:Brn→Int→Res)(m:Nat):Prop:=∀(l:List Abs.zac) (used:List Bool) (made:List zhO) (r a:Int),zb9 uses (brD l used made r) a→zgM l→zs1 made l.length→(made.length:Int)≤a→301-a≤m→
 zaA Tryz.prog GA 17 [.fz (enc l),.fz (enc used),.fz (enc made),.fz (.i .i64 r),.fz (.i .i64 uses),.ptr (7,0) 0] (hpL [((7,0),some ⟨[.fz (.i .i64 a)],true,false⟩)]) 1
  (fun d H' _=>D.val d=some (.fz (.i .i64 (zcE (rec (brD l used made r) a))))∧H' (7,0)=some ⟨[FD.i .i64 (rec (brD l used made r) a).added].map .fz,true,false⟩)
set_option maxRecDepth 100000 in
set_option maxHeartbeats 1000000 in
set_option maxHeartbeats 16000000 in
theorem zvT {uses:Int}{m:Nat}{rec:Brn→Int→Res}(hih:zyx uses rec m)(hadd:∀b a,a≤300→zjh a (rec b a)):zyx uses (zha rec uses) (m+1):=by
 intro l used made r a hok hbf hin hma hm1
 obtain⟨V,hV⟩:∃V,zha rec uses (brD l used made r) a=V:=⟨_,rfl⟩
 rw[hV]
 obtain⟨Q,hQ⟩:∃Q:D→zaw→Nat→Prop,Q=(fun d H' _=>D.val d=some (.fz (.i .i64 (zcE V)))∧H' (7,0)=some ⟨[FD.i .i64 V.added].map .fz,true,false⟩):=⟨_,rfl⟩
 rw[←hQ]
 have kq:=Kp.mk hQ
 clear hQ
 unfold zha at hV
 obtain⟨b,hb⟩:∃b,brD l used made r=b:=⟨_,rfl⟩
 rw[hb]at hok hV
 have hbl:b.list=l:=by rw[←hb];rfl
 have hbu:b.used=used:=by rw[←hb];rfl
 have hbr:b.rounds=r:=by rw[←hb];rfl
 have hll:=hok.ll
 have hul:=hok.ul
 rw[hbl]at hll hul
 rw[hbu]at hul
 have ha0:=hok.a0
 have ha1:=hok.a1
 have hr0:=hok.r0
 have hr1:=hok.r1
 rw[hbr]at hr0 hr1
 have hu:=hok.u
 have hcl:(∀f∈l,brF f)∧l.length≤100000:=⟨fun f hf=>(hbf f hf).o.b,by omega⟩
 have hac:(∀f∈l,acP f)∧l.length≤100000:=⟨fun f hf=>zx3 (hbf f hf).o,by omega⟩
 have ko:=Kp.mk hok
 have kf:=Kp.mk hbf
 have kn:=Kp.mk hin
 have ki:=Kp.mk hih
 have kd:=Kp.mk hadd
 have kb:=Kp.mk hb
 have hsh:=znW b.list
 rw[hbl]at hsh hV
 clear hok hbf hin hih hadd
 refine zah (N:=267) hm hW1 17000 (lsw [90,93,96,98,145,155,180,183,186,242,245,251] [63,158,1000019,1000030]) zIK Tryz.func17 rfl rfl (by simp) (by kernel_rfl) ?_
 cases hM:zcD l with
 |some p=>
  rw[hM]at hV hsh
  simp only at hV
  have hR:zrn l=true:=hsh.symm
  clear hM hsh
  repeat'(first|refine zaj.i hcl fun _=>?_|refine rf fun _=>?_|refine zaj.i (by simp only[List.length_map,List.length_take,List.length_append,List.length_cons,List.length_nil];omega) fun _=>?_|refine And.intro ?_ ?_|exact True.intro|refine rq fun _=>?_|simp only[go_sem,hR,zab,zad,zaa,zaH,zaG,Tryz.f17])
  all_goals(
   rw[kq.out,←hV]
   refine⟨?_,?_⟩
   ·simp only[go_sem,zhQ]
   ·simp only[go_sem,zhQ])
 |none=>
  rw[hM]at hV hsh
  simp only at hV
  have hR:zrn l=false:=hsh.symm
  obtain⟨K,hK⟩:∃K,zdN rec uses b a=K:=⟨_,rfl⟩
  rw[hK]at hV
  repeat'(first|refine zaj.i hcl fun _=>?_|refine rf fun _=>?_|refine zaj.i (by simp only[List.length_map,List.length_take,List.length_append,List.length_cons,List.length_nil];omega) fun _=>?_|refine And.intro ?_ ?_|exact True.intro|refine rq fun _=>?_|simp only[go_sem,hR,zab,zad,zaa,zaH,zaG,Tryz.f17])
  refine zao hm hW1 17000 (lsw [90,93,96,98,145,155,180,183,186,242,245,251] [63,158,1000019,1000030]) (ι:=zep 3 1 fun w=>zeN rec b a K (zwP.drop w)=V)
   ⟨fun q=>⟨frL [(0,.fz (.sl (l.map enc))),(1,.fz (.sl (used.map enc))),(2,.fz (.sl (made.map enc))),(3,.fz (.i .i64 r)),(4,.fz (.i .i64 uses)),(5,.ptr (7,0) 0),(12,.fz (.i .i64 0)),(37,.full [.i .i64 1,.i .i64 4,.i .i64 2]),(38,.fz (.i .i64 3)),(39,.fz (.i .i64 q.i))],hpL [((7,0),some ⟨[.fz (.i .i64 a)],true,false⟩)],q.m⟩,fun q=>3-q.i⟩
   ⟨0,1,by omega,by omega,hV⟩ (by kernel_rfl) ?_ ?_
  ·refine zai ?_ ?_ ?_<;>simp only[go_sem]
   all_goals first|done|rfl|omega
  rintro⟨w,q0,hw,hq0,hP⟩
  try simp only at hw hq0 hP
  clear hR hM hsh
  rcases Nat.lt_or_ge w 3 with hw3|hw3
  ·have hcase:w=0∨w=1∨w=2:=by omega
   rcases hcase with rfl|rfl|rfl
   ·have hP2:(match zb7 1 (b.list.drop 0) (b.used.drop 0) 0 with
     |some i=>zb5 rec b a i (b.list.getD i zbk)
     |none=>zeN rec b a K (zwP.drop 1))=V:=hP
    rw[hbl,hbu]at hP2
    obtain⟨X,hX⟩:∃X,zb7 1 (l.drop 0) (used.drop 0) 0=X:=⟨_,rfl⟩
    rw[hX]at hP2
    repeat'(first|refine rf fun _=>?_|refine zaj.i (by simp only[List.length_map,List.length_take,List.length_append,List.length_cons,List.length_nil];omega) fun _=>?_|refine And.intro ?_ ?_|exact True.intro|refine rq fun _=>?_|simp only[go_sem,zab,zad,zaa,zaH,zaG,Tryz.f17])
    refine zao hm hW1 17000 (lsw [90,93,96,98,145,155,180,183,186,242,245,251] [63,158,1000019,1000030]) (ι:=zep l.length q0 fun i=>zb7 1 (l.drop i) (used.drop i) i=X)
     ⟨fun q=>⟨frL [(0,.fz (.sl (l.map enc))),(1,.fz (.sl (used.map enc))),(2,.fz (.sl (made.map enc))),(3,.fz (.i .i64 r)),(4,.fz (.i .i64 uses)),(5,.ptr (7,0) 0),(12,.fz (.i .i64 0)),(14,.fz (.i .i64 1)),(37,.full [.i .i64 1,.i .i64 4,.i .i64 2]),(38,.fz (.i .i64 3)),(39,.fz (.i .i64 0)),(44,.fz (.i .i64 l.length)),(45,.fz (.i .i64 q.i))],hpL [((7,0),some ⟨[.fz (.i .i64 a)],true,false⟩)],q.m⟩,fun q=>l.length-q.i⟩
     ⟨0,q0,by omega,by omega,hX⟩ (by kernel_rfl) ?_ ?_
    ·refine zai ?_ ?_ ?_<;>simp only[go_sem]
     all_goals first|done|rfl|omega
    rintro⟨i,q1,hi,hq1,hE⟩
    try simp only at hi hq1 hE
    rcases Nat.lt_or_ge i l.length with h1|h1
    rotate_left
    ·rw[zef h1]at hE
     rw[←hE]at hP2
     simp only at hP2
     obtain rfl:i=l.length:=by omega
     repeat'(first|refine rf fun _=>?_|refine zaj.i (by simp only[List.length_map,List.length_take,List.length_append,List.length_cons,List.length_nil];omega) fun _=>?_|refine And.intro ?_ ?_|exact True.intro|refine rq fun _=>?_|simp only[go_sem,Nat.lt_irrefl,zab,zad,zaa,zaH,zaG,Tryz.f17])
     all_goals refine⟨⟨1,q1,by omega,by omega,hP2⟩,by simp only;omega,?_⟩
     all_goals refine zai ?_ ?_ ?_<;>simp only[go_sem]
     all_goals first|done|rfl|omega
    have h2:i<used.length:=by omega
    obtain⟨f,hf⟩:∃f,l[i]=f:=⟨_,rfl⟩
    obtain⟨u,hu2⟩:∃u,used[i]=u:=⟨_,rfl⟩
    have hfB:BF f:=kf.out f (by rw[←hf];exact List.getElem_mem h1)
    have hfb:brF f:=hfB.o.b
    rw[zdn h1 h2,hf,hu2]at hE
    obtain⟨k,hk⟩:∃k,(zag f).1=k:=⟨_,rfl⟩
    have hks:zaY f=k:=hk
    rw[hk]at hE
    cases u with
    |true=>
     rw[if_neg (by simp)]at hE
     repeat'(first|refine rf fun _=>?_|refine zaj.i (by simp only[List.length_map,List.length_take,List.length_append,List.length_cons,List.length_nil];omega) fun _=>?_|refine And.intro ?_ ?_|exact True.intro|refine rq fun _=>?_|simp only[go_sem,h1,h2,hf,hu2,hks,zab,zad,zaa,zaH,zaG,Tryz.f17])
     all_goals refine⟨⟨i+1,q1,by omega,by omega,hE⟩,by simp only;omega,?_⟩
     all_goals refine zai ?_ ?_ ?_<;>simp only[go_sem]
     all_goals first|done|rfl|omega
    |false=>
     by_cases hkw:k=1
     rotate_left
     ·rw[if_neg (by simp[hkw])]at hE
      have hkw':(k=1)=False:=eq_false hkw
      repeat'(first|refine zaj.i hfb fun _=>?_|refine rf fun _=>?_|refine zaj.i (by simp only[List.length_map,List.length_take,List.length_append,List.length_cons,List.length_nil];omega) fun _=>?_|refine And.intro ?_ ?_|exact True.intro|refine rq fun _=>?_|simp only[go_sem,h1,h2,hf,hu2,hks,hkw',zab,zad,zaa,zaH,zaG,Tryz.f17])
      all_goals refine⟨⟨i+1,q1,by omega,by omega,hE⟩,by simp only;omega,?_⟩
      all_goals refine zai ?_ ?_ ?_<;>simp only[go_sem]
      all_goals first|done|rfl|omega
     subst hkw
     rw[if_pos ⟨rfl,rfl⟩]at hE
     rw[←hE]at hP2
     simp only at hP2
     have hfg:l.getD i zbk=f:=by rw[List.getD_eq_getElem?_getD,List.getElem?_eq_getElem h1,hf];rfl
     rw[hfg]at hP2
     obtain⟨pb1,pb2,pb3,pb4⟩:=zcH hfb
     have pB:=zgt hfB
     obtain⟨po,pq,pt,hPt⟩:∃o q t,zag f=(1,o,q,t):=⟨(zag f).2.1,(zag f).2.2.1,(zag f).2.2.2,by rw[←hk]⟩
     rw[hPt]at pb1 pb2 pb3 pb4 pB
     simp only at pb1 pb2 pb3 pb4 pB
     have hpie:za3 f=po:=by unfold za3;rw[hPt]
     unfold zb5 at hP2
     rw[hPt]at hP2
     have hue:used.isEmpty=false:=by cases hb:used with|nil=>rw[hb]at h2;simp at h2|cons=>rfl
     have hul2:used.length≤100000:=by omega
     have hvi:used.isEmpty=false∧i+1≤used.length:=⟨hue,by omega⟩
     obtain⟨U,hU⟩:∃U,used.set i true=U:=⟨_,rfl⟩
     have hUl:U.length=used.length:=by rw[←hU,List.length_set]
     have hUc:(used.map (D.fz∘enc)).set i (.fz (.b true))=zaf (U.map enc):=by
      rw[zaQ,←hU,List.map_set];rfl
     rw[if_pos rfl]at hP2
     have hpo1:1≤po.length:=by have:=zid (f:=f) (by rw[hPt]);rw[hPt]at this;exact this
     have hcp:clB f∧(zaY f=1∨zaY f=2):=⟨zji hfB,.inl hks⟩
     by_cases hfu:300<a+po.length
     ·rw[if_pos hfu]at hP2
      have hfT:(300<a+(po.length:Int))=True:=eq_true hfu
      repeat'(first|refine zaj.i hfb fun _=>?_|refine zaj.i hvi fun _=>?_|refine zaj.i hcp fun _=>?_|refine zaj.i hcp.1 fun _=>?_|refine rf fun _=>?_|refine zaj.i (by simp only[List.length_map,List.length_take,List.length_append,List.length_cons,List.length_nil];omega) fun _=>?_|refine And.intro ?_ ?_|exact True.intro|refine rq fun _=>?_|simp only[go_sem,hfT,h1,h2,hf,hu2,hks,hpie,zab,zad,zaa,zaH,zaG,Tryz.f17])
      all_goals(
       rw[kq.out,←hP2]
       refine⟨?_,?_⟩
       ·simp only[go_sem,zdK,zcZ]
       ·simp only[go_sem,zdK,zcZ])
     ·rw[if_neg hfu]at hP2
      have hfT:(300<a+(po.length:Int))=False:=eq_false hfu
      repeat'(first|refine zaj.i hfb fun _=>?_|refine zaj.i hvi fun _=>?_|refine zaj.i hcp fun _=>?_|refine zaj.i hcp.1 fun _=>?_|refine rf fun _=>?_|refine zaj.i (by simp only[List.length_map,List.length_take,List.length_append,List.length_cons,List.length_nil];omega) fun _=>?_|refine And.intro ?_ ?_|exact True.intro|refine rq fun _=>?_|simp only[go_sem,hfT,h1,h2,hf,hu2,hks,hpie,zab,zad,zaa,zaH,zaG,Tryz.f17])
      have hMb:∀y∈po,brF y:=pb1
      have hMB:∀y∈po,BF y:=pB
      obtain⟨B',hB'⟩:∃B',zbS (zb6 b i) po=B':=⟨_,rfl⟩
      have hok':zb9 uses B' ((a+po.length)):=by rw[←hB'];exact(ko.out.mark i).add hMb (by simp) (by omega)
      have eB:B'=brD (l++po) (U++List.replicate po.length false) made r:=by rw[←hB',←kb.out,znP kn.out,hU]
      rw[hB']at hP2
      obtain⟨rs,hrs⟩:∃rs,rec B' ((a+po.length))=rs:=⟨_,rfl⟩
      rw[hrs]at hP2
      have hrun:=ki.out (l++po) (U++List.replicate po.length false) made r ((a+po.length)) (by rw[←eB];exact hok') (fun y hy=>by
       rcases List.mem_append.1 hy with h|h
       ·exact kf.out y h
       ·exact hMB y h) (kn.out.mono (by simp)) (by omega) (by omega)
      rw[←eB,hrs]at hrun
      have hU0:(zaf (used.map enc)).set i (D.fz (FD.b true))=zaf (U.map enc):=by rw[zaQ];exact hUc
      refine zao hm hW1 17000 (lsw [90,93,96,98,145,155,180,183,186,242,245,251] [63,158,1000019,1000030]) (ι:=zAq po.length (q1+3) fun _=>True)
       ⟨fun q=>⟨frL [(2,.fz (.sl (made.map enc))),(3,.fz (.i .i64 r)),(4,.fz (.i .i64 uses)),(5,.ptr (7,0) 0),(22,.ow (17155,q.g1) 4 ((l++po.take q.i).map enc)),(16,.arr (17158,q.g2) 1 0 (U++List.replicate q.i false).length),(146,.fz (.sl (po.map enc))),(147,.fz (.i .i64 po.length)),(148,.fz (.i .i64 q.i))],
        hpL [((7,0),some ⟨[.fz (.i .i64 (a+po.length))],true,false⟩),((17155,q.g1),some tok),((17158,q.g2),some ⟨zaf ((U++List.replicate q.i false).map enc),false,false⟩)],q.m⟩,fun q=>po.length-q.i⟩
       ⟨0,q1+2,q1+2,q1+3,by omega,by omega,by omega,by omega,trivial⟩ (by kernel_rfl) ?_ ?_
      ·refine zbl [((17155,q1+2),(17145,q1+1)),((17158,q1+2),(17063,q1))] [] [] ?_ ?_ ?_ ?_ ?_<;>simp only[go_sem,zws,znC,vL,hU0,hUl,hue,List.take_zero,List.append_nil,List.replicate_zero]
       all_goals first|done|rfl|omega|(refine⟨?_,?_⟩<;>omega)
      rintro⟨j,g1,g2,m',hj,hg1,hg2,hm',_⟩
      try simp only at hj hg1 hg2 hm'
      rcases Nat.lt_or_ge j po.length with h3|h3
      ·obtain⟨x,hx⟩:∃x,po[j]=x:=⟨_,rfl⟩
       have et:po.take (j+1)=po.take j++[x]:=by rw[List.take_succ_eq_append_getElem h3,hx]
       have er:List.replicate (j+1) false=List.replicate j false++[false]:=List.replicate_succ'
       have hlU:(U++List.replicate j false).length=U.length+j:=by simp
       have hlM:(l++po.take j).length=l.length+j:=by rw[List.length_append,List.length_take];omega
       have hfl:(zaf (U.map enc++(List.replicate j false).map enc)).length=U.length+j:=by rw[←List.map_append,zaQ];simp
       have hft:=List.take_of_length_le (Nat.le_of_eq hfl)
       have hfa:zaf (U.map enc++(List.replicate j false).map enc)++zaf [FD.b false]=zaf (U.map enc++((List.replicate j false).map enc++[FD.b false])):=by rw[←zmq,List.append_assoc]
       repeat'(first|refine zaj.i ⟨Nat.le_of_eq hfl.symm,rfl,zat (by omega) (by decide)⟩ fun _=>?_|refine rf fun _=>?_|refine zaj.i (by simp only[List.length_map,List.length_take,List.length_append,List.length_cons,List.length_nil];omega) fun _=>?_|refine And.intro ?_ ?_|exact True.intro|refine rq fun _=>?_|simp only[go_sem,h3,hx,hlU,hlM,hft,zab,zad,zaa,zaH,zaG,Tryz.f17])
       refine⟨⟨j+1,m'+1,m'+2,m'+3,by omega,by omega,by omega,by omega,trivial⟩,by simp only;omega,?_⟩
       refine zbl [] [] [] ?_ ?_ ?_ ?_ ?_<;>simp only[go_sem,et,er,hfa,List.map_append,List.append_assoc,hlU]
       all_goals first|done|rfl|omega|(simp only[List.length_replicate];omega)|(refine⟨?_,?_⟩<;>omega)
      ·obtain rfl:j=po.length:=by omega
       have hlU:(U++List.replicate po.length false).length=U.length+po.length:=by simp
       repeat'(first|refine rf fun _=>?_|refine zaj.i (by simp only[List.length_map,List.length_take,List.length_append,List.length_cons,List.length_nil];omega) fun _=>?_|refine And.intro ?_ ?_|exact True.intro|refine rq fun _=>?_|simp only[go_sem,Nat.lt_irrefl,List.take_length,zab,zad,zaa,zaH,zaG,Tryz.f17])
       refine zaI.i (zAU (a2:=(a+po.length)) (l2:=l++po) (u2:=U++List.replicate po.length false) (made:=made) (g:=g2) (v:=false) (cells:=zaf (U.map enc++(List.replicate po.length false).map enc)) hrun List.map_append.symm (by simp only[go_sem]) (by rw[List.map_append]) (fun h=>by cases h) (by first|exact hlU.symm|simp) (by simp only[go_sem]) ?_)
       repeat'(first|refine rf fun _=>?_|refine zaj.i (by simp only[List.length_map,List.length_take,List.length_append,List.length_cons,List.length_nil];omega) fun _=>?_|refine And.intro ?_ ?_|exact True.intro|refine rq fun _=>?_|simp only[go_sem,zab,zad,zaa,zaH,zaG,Tryz.f17])
       all_goals(
        rw[kq.out,←hP2]
        refine⟨?_,?_⟩
        ·simp only[go_sem,zjG,zia]
        ·simp only[go_sem,zjG,zia])
   ·have hP2:(match zb7 4 (b.list.drop 0) (b.used.drop 0) 0 with
     |some i=>zb5 rec b a i (b.list.getD i zbk)
     |none=>zeN rec b a K (zwP.drop 2))=V:=hP
    rw[hbl,hbu]at hP2
    obtain⟨X,hX⟩:∃X,zb7 4 (l.drop 0) (used.drop 0) 0=X:=⟨_,rfl⟩
    rw[hX]at hP2
    repeat'(first|refine rf fun _=>?_|refine zaj.i (by simp only[List.length_map,List.length_take,List.length_append,List.length_cons,List.length_nil];omega) fun _=>?_|refine And.intro ?_ ?_|exact True.intro|refine rq fun _=>?_|simp only[go_sem,zab,zad,zaa,zaH,zaG,Tryz.f17])
    refine zao hm hW1 17000 (lsw [90,93,96,98,145,155,180,183,186,242,245,251] [63,158,1000019,1000030]) (ι:=zep l.length q0 fun i=>zb7 4 (l.drop i) (used.drop i) i=X)
     ⟨fun q=>⟨frL [(0,.fz (.sl (l.map enc))),(1,.fz (.sl (used.map enc))),(2,.fz (.sl (made.map enc))),(3,.fz (.i .i64 r)),(4,.fz (.i .i64 uses)),(5,.ptr (7,0) 0),(12,.fz (.i .i64 0)),(14,.fz (.i .i64 4)),(37,.full [.i .i64 1,.i .i64 4,.i .i64 2]),(38,.fz (.i .i64 3)),(39,.fz (.i .i64 1)),(44,.fz (.i .i64 l.length)),(45,.fz (.i .i64 q.i))],hpL [((7,0),some ⟨[.fz (.i .i64 a)],true,false⟩)],q.m⟩,fun q=>l.length-q.i⟩
     ⟨0,q0,by omega,by omega,hX⟩ (by kernel_rfl) ?_ ?_
    ·refine zai ?_ ?_ ?_<;>simp only[go_sem]
     all_goals first|done|rfl|omega
    rintro⟨i,q1,hi,hq1,hE⟩
    try simp only at hi hq1 hE
    rcases Nat.lt_or_ge i l.length with h1|h1
    rotate_left
    ·rw[zef h1]at hE
     rw[←hE]at hP2
     simp only at hP2
     obtain rfl:i=l.length:=by omega
     repeat'(first|refine rf fun _=>?_|refine zaj.i (by simp only[List.length_map,List.length_take,List.length_append,List.length_cons,List.length_nil];omega) fun _=>?_|refine And.intro ?_ ?_|exact True.intro|refine rq fun _=>?_|simp only[go_sem,Nat.lt_irrefl,zab,zad,zaa,zaH,zaG,Tryz.f17])
     all_goals refine⟨⟨2,q1,by omega,by omega,hP2⟩,by simp only;omega,?_⟩
     all_goals refine zai ?_ ?_ ?_<;>simp only[go_sem]
     all_goals first|done|rfl|omega
    have h2:i<used.length:=by omega
    obtain⟨f,hf⟩:∃f,l[i]=f:=⟨_,rfl⟩
    obtain⟨u,hu2⟩:∃u,used[i]=u:=⟨_,rfl⟩
    have hfB:BF f:=kf.out f (by rw[←hf];exact List.getElem_mem h1)
    have hfb:brF f:=hfB.o.b
    rw[zdn h1 h2,hf,hu2]at hE
    obtain⟨k,hk⟩:∃k,(zag f).1=k:=⟨_,rfl⟩
    have hks:zaY f=k:=hk
    rw[hk]at hE
    cases u with
    |true=>
     rw[if_neg (by simp)]at hE
     repeat'(first|refine rf fun _=>?_|refine zaj.i (by simp only[List.length_map,List.length_take,List.length_append,List.length_cons,List.length_nil];omega) fun _=>?_|refine And.intro ?_ ?_|exact True.intro|refine rq fun _=>?_|simp only[go_sem,h1,h2,hf,hu2,hks,zab,zad,zaa,zaH,zaG,Tryz.f17])
     all_goals refine⟨⟨i+1,q1,by omega,by omega,hE⟩,by simp only;omega,?_⟩
     all_goals refine zai ?_ ?_ ?_<;>simp only[go_sem]
     all_goals first|done|rfl|omega
    |false=>
     by_cases hkw:k=4
     rotate_left
     ·rw[if_neg (by simp[hkw])]at hE
      have hkw':(k=4)=False:=eq_false hkw
      repeat'(first|refine zaj.i hfb fun _=>?_|refine rf fun _=>?_|refine zaj.i (by simp only[List.length_map,List.length_take,List.length_append,List.length_cons,List.length_nil];omega) fun _=>?_|refine And.intro ?_ ?_|exact True.intro|refine rq fun _=>?_|simp only[go_sem,h1,h2,hf,hu2,hks,hkw',zab,zad,zaa,zaH,zaG,Tryz.f17])
      all_goals refine⟨⟨i+1,q1,by omega,by omega,hE⟩,by simp only;omega,?_⟩
      all_goals refine zai ?_ ?_ ?_<;>simp only[go_sem]
      all_goals first|done|rfl|omega
     subst hkw
     rw[if_pos ⟨rfl,rfl⟩]at hE
     rw[←hE]at hP2
     simp only at hP2
     have hfg:l.getD i zbk=f:=by rw[List.getD_eq_getElem?_getD,List.getElem?_eq_getElem h1,hf];rfl
     rw[hfg]at hP2
     obtain⟨pb1,pb2,pb3,pb4⟩:=zcH hfb
     have pB:=zgt hfB
     obtain⟨po,pq,pt,hPt⟩:∃o q t,zag f=(4,o,q,t):=⟨(zag f).2.1,(zag f).2.2.1,(zag f).2.2.2,by rw[←hk]⟩
     rw[hPt]at pb1 pb2 pb3 pb4 pB
     simp only at pb1 pb2 pb3 pb4 pB
     have hpie:za3 f=po:=by unfold za3;rw[hPt]
     unfold zb5 at hP2
     rw[hPt]at hP2
     have hue:used.isEmpty=false:=by cases hb:used with|nil=>rw[hb]at h2;simp at h2|cons=>rfl
     have hul2:used.length≤100000:=by omega
     have hvi:used.isEmpty=false∧i+1≤used.length:=⟨hue,by omega⟩
     obtain⟨U,hU⟩:∃U,used.set i true=U:=⟨_,rfl⟩
     have hUl:U.length=used.length:=by rw[←hU,List.length_set]
     have hUc:(used.map (D.fz∘enc)).set i (.fz (.b true))=zaf (U.map enc):=by
      rw[zaQ,←hU,List.map_set];rfl
     have hP3:(if(4:Int)=1 then _ else if(4:Int)=4 then(if 300<a+1 then zjR (a+1)else ziy i (zea (za6 b.list)) (rec (zbS (zb6 b i) [zbJ pq pt (zea (za6 b.list))]) (a+1)))else _)=V:=hP2
     rw[if_neg (by decide),if_pos rfl,hbl,←zh9]at hP3
     obtain⟨hf1,hf2,hf3⟩:=zfN (acM l)
     have hnb:(acM l).length<10^20:=by rw[zh9];exact zjV hcl.1 (by omega)
     have hnm:zea (acM l)=zb2 (zch (acM l) (acM l).length 0):=rfl
     obtain⟨NS,hNS⟩:∃NS,acM l=NS:=⟨_,rfl⟩
     rw[hNS]at hf1 hf2 hf3 hnb hnm hP3
     have hn64:NS.length≤900000000:=by
      rw[←hNS]
      have:=znH hac.1 l.length (Nat.le_refl _)
      rw[List.take_length]at this
      omega
     obtain⟨KF,hKF⟩:∃KF,zch NS NS.length 0=KF:=⟨_,rfl⟩
     rw[hKF]at hf1 hf2 hf3 hnm
     rw[hnm]at hP3
     repeat'(first|refine zaj.i hfb fun _=>?_|refine zaj.i hvi fun _=>?_|refine zaj.i hcp fun _=>?_|refine zaj.i hcp.1 fun _=>?_|refine rf fun _=>?_|refine zaj.i (by simp only[List.length_map,List.length_take,List.length_append,List.length_cons,List.length_nil];omega) fun _=>?_|refine And.intro ?_ ?_|exact True.intro|refine rq fun _=>?_|simp only[go_sem,h1,h2,hf,hu2,hks,hNS,zab,zad,zaa,zaH,zaG,Tryz.f17])
     refine zao hm hW1 17000 (lsw [90,93,96,98,145,155,180,183,186,242,245,251] [63,158,1000019,1000030]) (ι:=zep KF (q1+1) fun _=>True)
      ⟨fun q=>⟨frL [(0,.fz (.sl (l.map enc))),(2,.fz (.sl (made.map enc))),(3,.fz (.i .i64 r)),(4,.fz (.i .i64 uses)),(5,.ptr (7,0) 0),(15,.fz (.i .i64 i)),(16,.arr (17063,q1) 1 0 used.length),(21,.fz (.i .i64 q.i))],
       hpL [((7,0),some ⟨[.fz (.i .i64 a)],true,false⟩),((17063,q1),some ⟨(zaf (used.map enc)).set i (.fz (.b true)),false,used.isEmpty⟩)],q.m⟩,fun q=>KF-q.i⟩
      ⟨0,q1+1,by omega,by omega,trivial⟩ (by kernel_rfl) ?_ ?_
     ·refine zai ?_ ?_ ?_<;>simp only[go_sem]
      all_goals first|done|rfl|omega|(refine⟨?_,?_⟩<;>omega)
     rintro⟨k,m2,hk2,hm2,_⟩
     try simp only at hk2 hm2
     have hK2:(0:Int)≤k∧(k:Int)≤1000000000000:=by omega
     have hdk:(zCJ (k:Int)).l=zaP k:=rfl
     have hdl:1+(zaP k).length≤zbp:=by have:=zcP k;unfold zbp;omega
     rcases Nat.lt_or_ge k KF with h3|h3
     ·have hin:((⟨99::zaP k⟩:Str)∈NS)=True:=eq_true (hf3 k h3)
      repeat'(first|refine zaj.i hdl fun _=>?_|refine zaj.i hfb fun _=>?_|refine zaj.i hvi fun _=>?_|refine zaj.i hac fun _=>?_|refine zaj.i hK2 fun _=>?_|refine zae (id:=30) hm hW1 17000 (lsw [90,93,96,98,145,155,180,183,186,242,245,251] [63,158,1000019,1000030]) zaG (by kernel_rfl) (by kernel_rfl) ?_|refine rf fun _=>?_|refine zaj.i (by simp only[List.length_map,List.length_take,List.length_append,List.length_cons,List.length_nil];omega) fun _=>?_|refine And.intro ?_ ?_|exact True.intro|refine rq fun _=>?_|simp only[go_sem,hNS,hdk,hin,List.cons_append,List.nil_append,zab,zad,zaa,zaH,zaG,Tryz.f17])
      refine⟨⟨k+1,m2,by omega,by omega,trivial⟩,by simp only;omega,?_⟩
      refine zai ?_ ?_ ?_<;>simp only[go_sem]
      all_goals first|done|rfl|omega
     obtain rfl:k=KF:=by omega
     have hin:((⟨99::zaP k⟩:Str)∈NS)=False:=eq_false hf2
     obtain⟨qa,hqa,hab,has⟩:=pb4 (by simp)
     have hfor:zmu f ⟨99::zaP k⟩:=⟨zji hfB,.inr hks,zgQ (j:=k) (by omega)⟩
     have hIB:BF (zbJ pq pt (zb2 k)):=by
      have:=zhT hfB (nm:=zb2 k) (.inr (by rw[hPt])) (zgQ (by omega))
      rw[hPt]at this
      exact this
     have hfI:zjP f ⟨99::zaP k⟩=zbJ pq pt (zb2 k):=by unfold zjP;rw[hPt];rfl
     obtain⟨I,hI⟩:∃I,zbJ pq pt (zb2 k)=I:=⟨_,rfl⟩
     rw[hI]at hIB hfI hP3
     obtain⟨M,hMM⟩:∃M,M=[I]:=⟨_,rfl⟩
     rw[←hMM]at hP3
     have hMl:M.length=1:=by rw[hMM];rfl
     by_cases hfu:300<a+1
     ·rw[if_pos hfu]at hP3
      have hfT:(300<a+1)=True:=eq_true hfu
      repeat'(first|refine zaj.i hdl fun _=>?_|refine zaj.i hfb fun _=>?_|refine zaj.i hvi fun _=>?_|refine zaj.i hac fun _=>?_|refine zaj.i hK2 fun _=>?_|refine zaj.i hfor fun _=>?_|refine zae (id:=30) hm hW1 17000 (lsw [90,93,96,98,145,155,180,183,186,242,245,251] [63,158,1000019,1000030]) zaG (by kernel_rfl) (by kernel_rfl) ?_|refine rf fun _=>?_|refine zaj.i (by simp only[List.length_map,List.length_take,List.length_append,List.length_cons,List.length_nil];omega) fun _=>?_|refine And.intro ?_ ?_|exact True.intro|refine rq fun _=>?_|simp only[go_sem,hfT,h1,h2,hf,hNS,hdk,hin,hfI,List.cons_append,List.nil_append,zab,zad,zaa,zaH,zaG,Tryz.f17])
      all_goals(
       rw[kq.out,←hP3]
       refine⟨?_,?_⟩
       ·simp only[go_sem,zdK,zcZ]
       ·simp only[go_sem,zdK,zcZ])
     rw[if_neg hfu]at hP3
     have hfT:(300<a+1)=False:=eq_false hfu
     repeat'(first|refine zaj.i hdl fun _=>?_|refine zaj.i hfb fun _=>?_|refine zaj.i hvi fun _=>?_|refine zaj.i hac fun _=>?_|refine zaj.i hK2 fun _=>?_|refine zaj.i hfor fun _=>?_|refine zae (id:=30) hm hW1 17000 (lsw [90,93,96,98,145,155,180,183,186,242,245,251] [63,158,1000019,1000030]) zaG (by kernel_rfl) (by kernel_rfl) ?_|refine rf fun _=>?_|refine zaj.i (by simp only[List.length_map,List.length_take,List.length_append,List.length_cons,List.length_nil];omega) fun _=>?_|refine And.intro ?_ ?_|exact True.intro|refine rq fun _=>?_|simp only[go_sem,hfT,h1,h2,hf,hNS,hdk,hin,hfI,List.cons_append,List.nil_append,zab,zad,zaa,zaH,zaG,Tryz.f17])
     have hMb:∀y∈M,brF y:=fun y hy=>by rw[hMM]at hy;rw[List.mem_singleton.1 hy];exact hIB.o.b
     have hMB:∀y∈M,BF y:=fun y hy=>by rw[hMM]at hy;rw[List.mem_singleton.1 hy];exact hIB
     obtain⟨B',hB'⟩:∃B',zbS (zb6 b i) M=B':=⟨_,rfl⟩
     have hok':zb9 uses B' ((a+1)):=by rw[←hB'];exact(ko.out.mark i).add hMb (by rw[hMl];rfl) (by omega)
     have eB:B'=brD (l++M) (U++List.replicate M.length false) made r:=by rw[←hB',←kb.out,znP kn.out,hU]
     rw[hB']at hP3
     obtain⟨rs,hrs⟩:∃rs,rec B' ((a+1))=rs:=⟨_,rfl⟩
     rw[hrs]at hP3
     have hrun:=ki.out (l++M) (U++List.replicate M.length false) made r ((a+1)) (by rw[←eB];exact hok') (fun y hy=>by
      rcases List.mem_append.1 hy with h|h
      ·exact kf.out y h
      ·exact hMB y h) (kn.out.mono (by simp)) (by omega) (by omega)
     rw[←eB,hrs]at hrun
     have hU0:(zaf (used.map enc)).set i (D.fz (FD.b true))=zaf (U.map enc):=by rw[zaQ];exact hUc
     refine zao hm hW1 17000 (lsw [90,93,96,98,145,155,180,183,186,242,245,251] [63,158,1000019,1000030]) (ι:=zAq M.length (m2+2) fun _=>True)
      ⟨fun q=>⟨frL [(2,.fz (.sl (made.map enc))),(3,.fz (.i .i64 r)),(4,.fz (.i .i64 uses)),(5,.ptr (7,0) 0),(22,.ow (17155,q.g1) 4 ((l++M.take q.i).map enc)),(16,.arr (17158,q.g2) 1 0 (U++List.replicate q.i false).length),(146,.full (M.map enc)),(147,.fz (.i .i64 M.length)),(148,.fz (.i .i64 q.i))],
       hpL [((7,0),some ⟨[.fz (.i .i64 (a+1))],true,false⟩),((17155,q.g1),some tok),((17158,q.g2),some ⟨zaf ((U++List.replicate q.i false).map enc),false,false⟩)],q.m⟩,fun q=>M.length-q.i⟩
      ⟨0,m2+1,m2+1,m2+2,by omega,by omega,by omega,by omega,trivial⟩ (by kernel_rfl) ?_ ?_
     ·refine zbl [((17155,m2+1),(17145,m2)),((17158,m2+1),(17063,q1))] [] [] ?_ ?_ ?_ ?_ ?_<;>simp only[go_sem,zws,znC,vL,hU0,hUl,hue,List.take_zero,List.append_nil,List.replicate_zero,hMM]
      all_goals first|done|rfl|omega|(refine⟨?_,?_⟩<;>omega)
     rintro⟨j,g1,g2,m',hj,hg1,hg2,hm',_⟩
     try simp only at hj hg1 hg2 hm'
     rcases Nat.lt_or_ge j M.length with h3|h3
     ·obtain⟨x,hx⟩:∃x,M[j]=x:=⟨_,rfl⟩
      have et:M.take (j+1)=M.take j++[x]:=by rw[List.take_succ_eq_append_getElem h3,hx]
      have er:List.replicate (j+1) false=List.replicate j false++[false]:=List.replicate_succ'
      have hlU:(U++List.replicate j false).length=U.length+j:=by simp
      have hlM:(l++M.take j).length=l.length+j:=by rw[List.length_append,List.length_take];omega
      have hfl:(zaf (U.map enc++(List.replicate j false).map enc)).length=U.length+j:=by rw[←List.map_append,zaQ];simp
      have hft:=List.take_of_length_le (Nat.le_of_eq hfl)
      have hfa:zaf (U.map enc++(List.replicate j false).map enc)++zaf [FD.b false]=zaf (U.map enc++((List.replicate j false).map enc++[FD.b false])):=by rw[←zmq,List.append_assoc]
      repeat'(first|refine zaj.i ⟨Nat.le_of_eq hfl.symm,rfl,zat (by omega) (by decide)⟩ fun _=>?_|refine rf fun _=>?_|refine zaj.i (by simp only[List.length_map,List.length_take,List.length_append,List.length_cons,List.length_nil];omega) fun _=>?_|refine And.intro ?_ ?_|exact True.intro|refine rq fun _=>?_|simp only[go_sem,h3,hx,hlU,hlM,hft,zab,zad,zaa,zaH,zaG,Tryz.f17])
      refine⟨⟨j+1,m'+1,m'+2,m'+3,by omega,by omega,by omega,by omega,trivial⟩,by simp only;omega,?_⟩
      refine zbl [] [] [] ?_ ?_ ?_ ?_ ?_<;>simp only[go_sem,et,er,hfa,List.map_append,List.append_assoc,hlU]
      all_goals first|done|rfl|omega|(simp only[List.length_replicate];omega)|(refine⟨?_,?_⟩<;>omega)
     ·obtain rfl:j=M.length:=by omega
      have hlU:(U++List.replicate M.length false).length=U.length+M.length:=by simp
      repeat'(first|refine rf fun _=>?_|refine zaj.i (by simp only[List.length_map,List.length_take,List.length_append,List.length_cons,List.length_nil];omega) fun _=>?_|refine And.intro ?_ ?_|exact True.intro|refine rq fun _=>?_|simp only[go_sem,Nat.lt_irrefl,List.take_length,zab,zad,zaa,zaH,zaG,Tryz.f17])
      refine zaI.i (zAU (a2:=(a+1)) (l2:=l++M) (u2:=U++List.replicate M.length false) (made:=made) (g:=g2) (v:=false) (cells:=zaf (U.map enc++(List.replicate M.length false).map enc)) hrun List.map_append.symm (by simp only[go_sem]) (by rw[List.map_append]) (fun h=>by cases h) (by first|exact hlU.symm|simp) (by simp only[go_sem]) ?_)
      repeat'(first|refine rf fun _=>?_|refine zaj.i (by simp only[List.length_map,List.length_take,List.length_append,List.length_cons,List.length_nil];omega) fun _=>?_|refine And.intro ?_ ?_|exact True.intro|refine rq fun _=>?_|simp only[go_sem,zab,zad,zaa,zaH,zaG,Tryz.f17])
      all_goals(
       rw[kq.out,←hP3]
       refine⟨?_,?_⟩
       ·simp only[go_sem,zjH,zib]
       ·simp only[go_sem,zjH,zib])
   ·have hP2:(match zb7 2 (b.list.drop 0) (b.used.drop 0) 0 with
     |some i=>zb5 rec b a i (b.list.getD i zbk)
     |none=>zeN rec b a K (zwP.drop 3))=V:=hP
    rw[hbl,hbu]at hP2
    obtain⟨X,hX⟩:∃X,zb7 2 (l.drop 0) (used.drop 0) 0=X:=⟨_,rfl⟩
    rw[hX]at hP2
    repeat'(first|refine rf fun _=>?_|refine zaj.i (by simp only[List.length_map,List.length_take,List.length_append,List.length_cons,List.length_nil];omega) fun _=>?_|refine And.intro ?_ ?_|exact True.intro|refine rq fun _=>?_|simp only[go_sem,zab,zad,zaa,zaH,zaG,Tryz.f17])
    refine zao hm hW1 17000 (lsw [90,93,96,98,145,155,180,183,186,242,245,251] [63,158,1000019,1000030]) (ι:=zep l.length q0 fun i=>zb7 2 (l.drop i) (used.drop i) i=X)
     ⟨fun q=>⟨frL [(0,.fz (.sl (l.map enc))),(1,.fz (.sl (used.map enc))),(2,.fz (.sl (made.map enc))),(3,.fz (.i .i64 r)),(4,.fz (.i .i64 uses)),(5,.ptr (7,0) 0),(12,.fz (.i .i64 0)),(14,.fz (.i .i64 2)),(37,.full [.i .i64 1,.i .i64 4,.i .i64 2]),(38,.fz (.i .i64 3)),(39,.fz (.i .i64 2)),(44,.fz (.i .i64 l.length)),(45,.fz (.i .i64 q.i))],hpL [((7,0),some ⟨[.fz (.i .i64 a)],true,false⟩)],q.m⟩,fun q=>l.length-q.i⟩
     ⟨0,q0,by omega,by omega,hX⟩ (by kernel_rfl) ?_ ?_
    ·refine zai ?_ ?_ ?_<;>simp only[go_sem]
     all_goals first|done|rfl|omega
    rintro⟨i,q1,hi,hq1,hE⟩
    try simp only at hi hq1 hE
    rcases Nat.lt_or_ge i l.length with h1|h1
    rotate_left
    ·rw[zef h1]at hE
     rw[←hE]at hP2
     simp only at hP2
     obtain rfl:i=l.length:=by omega
     repeat'(first|refine rf fun _=>?_|refine zaj.i (by simp only[List.length_map,List.length_take,List.length_append,List.length_cons,List.length_nil];omega) fun _=>?_|refine And.intro ?_ ?_|exact True.intro|refine rq fun _=>?_|simp only[go_sem,Nat.lt_irrefl,zab,zad,zaa,zaH,zaG,Tryz.f17])
     all_goals refine⟨⟨3,q1,by omega,by omega,hP2⟩,by simp only;omega,?_⟩
     all_goals refine zai ?_ ?_ ?_<;>simp only[go_sem]
     all_goals first|done|rfl|omega
    have h2:i<used.length:=by omega
    obtain⟨f,hf⟩:∃f,l[i]=f:=⟨_,rfl⟩
    obtain⟨u,hu2⟩:∃u,used[i]=u:=⟨_,rfl⟩
    have hfB:BF f:=kf.out f (by rw[←hf];exact List.getElem_mem h1)
    have hfb:brF f:=hfB.o.b
    rw[zdn h1 h2,hf,hu2]at hE
    obtain⟨k,hk⟩:∃k,(zag f).1=k:=⟨_,rfl⟩
    have hks:zaY f=k:=hk
    rw[hk]at hE
    cases u with
    |true=>
     rw[if_neg (by simp)]at hE
     repeat'(first|refine rf fun _=>?_|refine zaj.i (by simp only[List.length_map,List.length_take,List.length_append,List.length_cons,List.length_nil];omega) fun _=>?_|refine And.intro ?_ ?_|exact True.intro|refine rq fun _=>?_|simp only[go_sem,h1,h2,hf,hu2,hks,zab,zad,zaa,zaH,zaG,Tryz.f17])
     all_goals refine⟨⟨i+1,q1,by omega,by omega,hE⟩,by simp only;omega,?_⟩
     all_goals refine zai ?_ ?_ ?_<;>simp only[go_sem]
     all_goals first|done|rfl|omega
    |false=>
     by_cases hkw:k=2
     rotate_left
     ·rw[if_neg (by simp[hkw])]at hE
      have hkw':(k=2)=False:=eq_false hkw
      repeat'(first|refine zaj.i hfb fun _=>?_|refine rf fun _=>?_|refine zaj.i (by simp only[List.length_map,List.length_take,List.length_append,List.length_cons,List.length_nil];omega) fun _=>?_|refine And.intro ?_ ?_|exact True.intro|refine rq fun _=>?_|simp only[go_sem,h1,h2,hf,hu2,hks,hkw',zab,zad,zaa,zaH,zaG,Tryz.f17])
      all_goals refine⟨⟨i+1,q1,by omega,by omega,hE⟩,by simp only;omega,?_⟩
      all_goals refine zai ?_ ?_ ?_<;>simp only[go_sem]
      all_goals first|done|rfl|omega
     subst hkw
     rw[if_pos ⟨rfl,rfl⟩]at hE
     rw[←hE]at hP2
     simp only at hP2
     have hfg:l.getD i zbk=f:=by rw[List.getD_eq_getElem?_getD,List.getElem?_eq_getElem h1,hf];rfl
     rw[hfg]at hP2
     obtain⟨pb1,pb2,pb3,pb4⟩:=zcH hfb
     have pB:=zgt hfB
     obtain⟨po,pq,pt,hPt⟩:∃o q t,zag f=(2,o,q,t):=⟨(zag f).2.1,(zag f).2.2.1,(zag f).2.2.2,by rw[←hk]⟩
     rw[hPt]at pb1 pb2 pb3 pb4 pB
     simp only at pb1 pb2 pb3 pb4 pB
     have hpie:za3 f=po:=by unfold za3;rw[hPt]
     unfold zb5 at hP2
     rw[hPt]at hP2
     have hue:used.isEmpty=false:=by cases hb:used with|nil=>rw[hb]at h2;simp at h2|cons=>rfl
     have hul2:used.length≤100000:=by omega
     have hvi:used.isEmpty=false∧i+1≤used.length:=⟨hue,by omega⟩
     obtain⟨U,hU⟩:∃U,used.set i true=U:=⟨_,rfl⟩
     have hUl:U.length=used.length:=by rw[←hU,List.length_set]
     have hUc:(used.map (D.fz∘enc)).set i (.fz (.b true))=zaf (U.map enc):=by
      rw[zaQ,←hU,List.map_set];rfl
     have hP3:(if(2:Int)=1 then _ else if(2:Int)=4 then _ else zeL rec (zb6 b i) i po [] a)=V:=hP2
     rw[if_neg (by decide),if_neg (by decide)]at hP3
     have hcp:clB f∧(zaY f=1∨zaY f=2):=⟨zji hfB,.inr hks⟩
     have hU0:(zaf (used.map enc)).set i (D.fz (FD.b true))=zaf (U.map enc):=by rw[zaQ];exact hUc
     repeat'(first|refine zaj.i hfb fun _=>?_|refine zaj.i hvi fun _=>?_|refine zaj.i hcp fun _=>?_|refine zaj.i hcp.1 fun _=>?_|refine rf fun _=>?_|refine zaj.i (by simp only[List.length_map,List.length_take,List.length_append,List.length_cons,List.length_nil];omega) fun _=>?_|refine And.intro ?_ ?_|exact True.intro|refine rq fun _=>?_|simp only[go_sem,h1,h2,hf,hu2,hks,hpie,zab,zad,zaa,zaH,zaG,Tryz.f17])
     refine zao hm hW1 17000 (lsw [90,93,96,98,145,155,180,183,186,242,245,251] [63,158,1000019,1000030]) (ι:=zAp po.length (q1+1) fun j a'=>(∃subs,zeL rec (zb6 b i) i (po.drop j) subs a'=V)∧a≤a'∧a'≤300)
      ⟨fun q=>⟨frL [(0,.fz (.sl (l.map enc))),(2,.fz (.sl (made.map enc))),(3,.fz (.i .i64 r)),(4,.fz (.i .i64 uses)),(5,.ptr (7,0) 0),(16,.fz (.sl (U.map enc))),(73,.fz (.sl (po.map enc))),(74,.fz (.i .i64 po.length)),(75,.fz (.i .i64 q.i))],
       hpL [((7,0),some ⟨[.fz (.i .i64 q.a)],true,false⟩)],q.m⟩,fun q=>po.length-q.i⟩
      ⟨0,a,q1+1,by omega,by omega,⟨⟨[],hP3⟩,by omega,by omega⟩⟩ (by kernel_rfl) ?_ ?_
     ·refine zbl [] [] [((17063,q1),U.map enc)] ?_ ?_ ?_ ?_ ?_<;>simp only[go_sem,hU0,hUl,hue]
      all_goals first|done|rfl|omega|(refine⟨?_,?_⟩<;>omega)
     rintro⟨j,a',m',hj,hm',⟨subs,hB0⟩,hB1,hB2⟩
     try simp only at hj hm' hB0 hB1 hB2
     rcases Nat.lt_or_ge j po.length with h3|h3
     rotate_left
     ·have hB9:=hB0
      rw[List.drop_eq_nil_of_le h3,zeL]at hB9
      obtain rfl:j=po.length:=by omega
      repeat'(first|refine rf fun _=>?_|refine zaj.i (by simp only[List.length_map,List.length_take,List.length_append,List.length_cons,List.length_nil];omega) fun _=>?_|refine And.intro ?_ ?_|exact True.intro|refine rq fun _=>?_|simp only[go_sem,Nat.lt_irrefl,zab,zad,zaa,zaH,zaG,Tryz.f17])
      all_goals(
       rw[kq.out,←hB9]
       refine⟨?_,?_⟩
       ·simp only[go_sem,zhQ]
       ·simp only[go_sem,zhQ])
     have hB9:=hB0
     rw[zjz h3]at hB9
     obtain⟨x,hx⟩:∃x,po[j]=x:=⟨_,rfl⟩
     have hxB:BF x:=pB x (by rw[←hx];exact List.getElem_mem h3)
     rw[hx]at hB9
     by_cases hfu:300<a'+1
     ·rw[if_pos hfu]at hB9
      have hfT:(300<a'+1)=True:=eq_true hfu
      repeat'(first|refine rf fun _=>?_|refine zaj.i (by simp only[List.length_map,List.length_take,List.length_append,List.length_cons,List.length_nil];omega) fun _=>?_|refine And.intro ?_ ?_|exact True.intro|refine rq fun _=>?_|simp only[go_sem,hfT,h3,hx,zab,zad,zaa,zaH,zaG,Tryz.f17])
      all_goals(
       rw[kq.out,←hB9]
       refine⟨?_,?_⟩
       ·simp only[go_sem,zdK,zcZ]
       ·simp only[go_sem,zdK,zcZ])
     rw[if_neg hfu]at hB9
     have hfT:(300<a'+1)=False:=eq_false hfu
     obtain⟨B',hB'⟩:∃B',zbS (zb6 b i) [x]=B':=⟨_,rfl⟩
     have hMb:∀y∈[x],brF y:=fun y hy=>by rw[List.mem_singleton.1 hy];exact hxB.o.b
     have hok':zb9 uses B' (a'+1):=by rw[←hB'];exact((ko.out.mark i).mono hB1 hB2).add hMb rfl (by omega)
     have eB:B'=brD (l++[x]) (U++[false]) made r:=by rw[←hB',←kb.out,znP kn.out,hU];rfl
     rw[hB']at hB9
     obtain⟨rs,hrs⟩:∃rs,rec B' (a'+1)=rs:=⟨_,rfl⟩
     rw[hrs]at hB9
     have hrun:=ki.out (l++[x]) (U++[false]) made r (a'+1) (by rw[←eB];exact hok') (fun y hy=>by
      rcases List.mem_append.1 hy with h|h
      ·exact kf.out y h
      ·rw[List.mem_singleton.1 h];exact hxB) (kn.out.mono (by simp)) (by omega) (by omega)
     rw[←eB,hrs]at hrun
     have had:=kd.out B' (a'+1) (by omega)
     rw[hrs]at had
     obtain⟨had1,had2⟩:=had
     have key:∀{H:zaw} {n:Nat} {R:D→zaw→Nat→Prop} {id1 id2:Abs.Id} {e1 e2:Nat} {xs ys:List FD},xs=(l++[x]).map enc→ys=(U++[false]).map enc→H (7,0)=some ⟨[.fz (.i .i64 (a'+1))],true,false⟩→
       R (.fz (.i .i64 (zcE rs))) (zaK H (7,0) (some ⟨[.fz (.i .i64 rs.added)],true,false⟩)) n→zaA Tryz.prog GA 17 [.ow id1 e1 xs,.ow id2 e2 ys,.fz (.sl (made.map enc)),.fz (.i .i64 r),.fz (.i .i64 uses),.ptr (7,0) 0] H n R:=by
      intro H n R id1 id2 e1 e2 xs ys hx hy hH hR
      subst hx hy
      exact zer (T:=7) (ds:=[.ow id1 e1 ((l++[x]).map enc),.ow id2 e2 ((U++[false]).map enc),.fz (.sl (made.map enc)),.fz (.i .i64 r),.fz (.i .i64 uses)]) (xs:=[.sl ((l++[x]).map enc),.sl ((U++[false]).map enc),.sl (made.map enc),.i .i64 r,.i .i64 uses]) (cs:=[.i .i64 (a'+1)]) (cs':=[.i .i64 rs.added]) rfl hrun hH hR
     repeat'(first|refine zaj.i ⟨rfl,zat (by omega) (by decide)⟩ fun _=>?_|refine zae (id:=19) hm hW1 17000 (lsw [90,93,96,98,145,155,180,183,186,242,245,251] [63,158,1000019,1000030]) zaH (by kernel_rfl) (by kernel_rfl) ?_|refine rf fun _=>?_|refine zaj.i (by simp only[List.length_map,List.length_take,List.length_append,List.length_cons,List.length_nil];omega) fun _=>?_|refine And.intro ?_ ?_|exact True.intro|refine rq fun _=>?_|simp only[go_sem,hfT,h3,hx,zab,zad,zaa,zaH,zaG,Tryz.f17])
     all_goals refine zaI.i (key (by simp only[List.map_append,List.map_cons,List.map_nil,zaO]) (by rw[List.map_append];rfl) (by simp only[go_sem]) ?_)
     all_goals cases hrk:rs.ok with
     |false=>
      rw[if_pos hrk]at hB9
      have hcv:zcE V=zcE rs:=by rw[←hB9];unfold zcE;rw[hrk]
      have hav:V.added=rs.added:=by rw[←hB9]
      have hne:(zcE rs=1)=False:=eq_false (by rw[zlX,hrk];simp)
      repeat'(first|refine rf fun _=>?_|refine zaj.i (by simp only[List.length_map,List.length_take,List.length_append,List.length_cons,List.length_nil];omega) fun _=>?_|refine And.intro ?_ ?_|exact True.intro|refine rq fun _=>?_|simp only[go_sem,hne,zab,zad,zaa,zaH,zaG,Tryz.f17])
      all_goals(
       rw[kq.out]
       refine⟨?_,?_⟩
       ·simp only[go_sem,hcv]
       ·simp only[go_sem,hav])
     |true=>
      rw[if_neg (by rw[hrk];simp)]at hB9
      have hne:zcE rs=1:=zlX.2 hrk
      repeat'(first|refine rf fun _=>?_|refine zaj.i (by simp only[List.length_map,List.length_take,List.length_append,List.length_cons,List.length_nil];omega) fun _=>?_|refine And.intro ?_ ?_|exact True.intro|refine rq fun _=>?_|simp only[go_sem,hne,zab,zad,zaa,zaH,zaG,Tryz.f17])
      all_goals refine⟨⟨j+1,rs.added,m'+9,by omega,by omega,⟨⟨_,hB9⟩,by omega,had2 hrk⟩⟩,by simp only;omega,?_⟩
      all_goals refine zai ?_ ?_ ?_<;>simp only[go_sem]
      all_goals first|done|rfl|omega
  ·obtain rfl:w=3:=by omega
   have hG:zdN rec uses b a=V:=hK.trans hP
   unfold zdN at hG
   rw[hbr]at hG
   by_cases hru:r=uses
   ·rw[if_pos hru]at hG
    have hrT:(r=uses)=True:=eq_true hru
    repeat'(first|refine rf fun _=>?_|refine zaj.i (by simp only[List.length_map,List.length_take,List.length_append,List.length_cons,List.length_nil];omega) fun _=>?_|refine And.intro ?_ ?_|exact True.intro|refine rq fun _=>?_|simp only[go_sem,hrT,Int.lt_irrefl,zab,zad,zaa,zaH,zaG,Tryz.f17])
    all_goals(
     rw[kq.out,←hG]
     refine⟨?_,?_⟩
     ·simp only[go_sem,zkx]
     ·simp only[go_sem,zkx])
   rw[if_neg hru]at hG
   have hrT:(r=uses)=False:=eq_false hru
   obtain⟨NS,hNS⟩:∃NS,acM l=NS:=⟨_,rfl⟩
   obtain⟨CS,hCS0⟩:∃CS,zc6 l=CS:=⟨_,rfl⟩
   have hnm:=zh9 l
   rw[hNS]at hnm
   have hc0:(⟨b.list,b.used,b.seen,r+1⟩:Brn)=brD l used made (r+1):=by rw[←kb.out];rfl
   rw[hc0,hbl,hCS0]at hG
   have hS0:zCx uses a r l made l used made [] a:=by
    refine⟨?_,kf.out,kn.out,by simp,fun d hd=>hd,hma,by simp⟩
    rw[←hc0]
    exact⟨ko.out.br,ko.out.ll,ko.out.ul,ko.out.sl,ko.out.ss,by simp only;omega,by simp only;omega,ko.out.u,ko.out.a0,ko.out.a1⟩
   have hCn:∀w∈CS,zas w=true:=fun w hw=>zis kf.out (by rw[hCS0];exact hw)
   have hcs:(((NS.length:Int)=0)=True∧CS=[⟨[99,48]⟩])∨(((NS.length:Int)=0)=False∧CS=NS):=by
    rw[←hCS0]
    unfold zc6
    rw[←hnm]
    by_cases h:NS=[]
    ·left;rw[if_pos h,h];exact⟨by simp,rfl⟩
    ·right;rw[if_neg h];exact⟨eq_false fun h2=>h (List.eq_nil_of_length_eq_zero (by omega)),rfl⟩
   have hCd:CS.Nodup:=by
    rcases hcs with⟨_,h⟩|⟨_,h⟩
    ·rw[h];simp
    ·rw[h,hnm];exact zt6 (zpD _)
   have hcb:CS.length≤1000000000:=by
    rcases hcs with⟨_,h⟩|⟨_,h⟩
    ·rw[h];simp
    ·rw[h,←hNS]
     have:=znH hac.1 l.length (Nat.le_refl _)
     rw[List.take_length]at this
     omega
   have kCn:=Kp.mk hCn
   have kCd:=Kp.mk hCd
   clear hCn hCd
   rcases hcs with⟨hnT,hCS⟩|⟨hnT,hCS⟩
   all_goals(
    repeat'(first|refine zaj.i hac fun _=>?_|refine zaj.i ⟨zoi made,zat (by omega) (by decide)⟩ fun _=>?_|refine rf fun _=>?_|refine zaj.i (by simp only[List.length_map,List.length_take,List.length_append,List.length_cons,List.length_nil];omega) fun _=>?_|refine And.intro ?_ ?_|exact True.intro|refine rq fun _=>?_|simp only[go_sem,hrT,hNS,hnT,zab,zad,zaa,zaH,zaG,Tryz.f17])
    refine zao hm hW1 17000 (lsw [90,93,96,98,145,155,180,183,186,242,245,251] [63,158,1000019,1000030]) (ι:=zwV l.length (q0+4) fun i lm um al st ad=>zmz rec (zgH CS (l.drop i) i ⟨brD lm um al (r+1),st,ad⟩)=V∧zCx uses a r l made lm um al st ad∧∀d∈al,d∈made∨d.at'<(i:Int))
     ⟨fun q=>⟨frL [(0,.fz (.sl (l.map enc))),(2,.fz (.sl (made.map enc))),(3,.fz (.i .i64 r)),(4,.fz (.i .i64 uses)),(5,.ptr (7,0) 0),(25,.fz (.sl (CS.map enc))),(26,.ow (17242,q.g1) 4 (q.lm.map enc)),(27,.ow (17245,q.g2) 1 (q.um.map enc)),(28,.ow (17251,q.g3) 2 (q.al.map enc)),(188,.fz (.i .i64 l.length)),(189,.fz (.i .i64 q.i))],hpL [((7,0),some ⟨[.fz (.i .i64 q.ad)],true,false⟩),((17242,q.g1),some tok),((17245,q.g2),some tok),((17251,q.g3),some tok)],q.m⟩,fun q=>l.length-q.i⟩
     ⟨0,l,used,made,[],a,q0+3,q0+3,q0+3,q0+4,by omega,by omega,by omega,by omega,by omega,⟨hG,hS0,fun d hd=> .inl hd⟩⟩ (by kernel_rfl) ?_ ?_
    ·refine zbl [((17242,q0+3),(17180,q0)),((17245,q0+3),(17183,q0+1)),((17251,q0+3),(17186,q0+2))] [] [] ?_ ?_ ?_ ?_ ?_<;>simp only[go_sem,zws,znC,vL,hCS]
     all_goals first|done|rfl|omega|(refine⟨?_,?_⟩<;>omega)
    rintro⟨i,lm,um,al,st,ad,g1,g2,g3,m2,hi,hg1,hg2,hg3,hm2,hq,hS,hD⟩
    try simp only at hi hg1 hg2 hg3 hm2 hq hS hD
    have hlm:=hS.ok.ll
    have hln:=hS.ln
    have hum:=hS.ok.ul
    have hsa:=hS.ok.a0
    have hsb:=hS.ok.a1
    have had:=hS.ad1
    have hal:=hS.all
    have hlmb:(lm.length:Int)≤41+ad:=hlm
    have humb:um.length=lm.length:=hum
    rcases Nat.lt_or_ge i l.length with h5|h5
    ·obtain⟨f,hf⟩:∃f,l[i]=f:=⟨_,rfl⟩
     have hfB:BF f:=kf.out f (by rw[←hf];exact List.getElem_mem h5)
     have hfb:brF f:=hfB.o.b
     have hq9:=hq
     rw[zmA h5,hf]at hq9
     obtain⟨k,hk⟩:∃k,(zag f).1=k:=⟨_,rfl⟩
     have hks:zaY f=k:=hk
     by_cases hk3:k=3
     rotate_left
     ·have hk3':(k=3)=False:=eq_false hk3
      rw[hk,if_neg hk3]at hq9
      repeat'(first|refine zaj.i hfb fun _=>?_|refine rf fun _=>?_|refine zaj.i (by simp only[List.length_map,List.length_take,List.length_append,List.length_cons,List.length_nil];omega) fun _=>?_|refine And.intro ?_ ?_|exact True.intro|refine rq fun _=>?_|simp only[go_sem,h5,hf,hks,hk3',zab,zad,zaa,zaH,zaG,Tryz.f17])
      all_goals refine⟨⟨i+1,lm,um,al,st,ad,g1,g2,g3,m2,by omega,by omega,by omega,by omega,by omega,⟨hq9,hS,fun d hd=>(hD d hd).imp id fun h=>by omega⟩⟩,by simp only;omega,?_⟩
      all_goals refine zai ?_ ?_ ?_<;>simp only[go_sem]
      all_goals first|done|rfl|omega
     subst hk3
     rw[if_pos hk]at hq9
     obtain⟨po,pq,pt,hPt⟩:∃o q t,zag f=(3,o,q,t):=⟨(zag f).2.1,(zag f).2.2.1,(zag f).2.2.2,by rw[←hk]⟩
     rw[hPt]at hq9
     have hq8:zmz rec ((ziH pq pt i (CS.drop 0) ⟨brD lm um al (r+1),st,ad⟩).bind (zgH CS (l.drop (i+1)) (i+1)))=V:=hq9
     repeat'(first|refine zaj.i hfb fun _=>?_|refine rf fun _=>?_|refine zaj.i (by simp only[List.length_map,List.length_take,List.length_append,List.length_cons,List.length_nil];omega) fun _=>?_|refine And.intro ?_ ?_|exact True.intro|refine rq fun _=>?_|simp only[go_sem,h5,hf,hks,zab,zad,zaa,zaH,zaG,Tryz.f17])
     refine zao hm hW1 17000 (lsw [90,93,96,98,145,155,180,183,186,242,245,251] [63,158,1000019,1000030]) (ι:=zwV CS.length m2 fun j lm um al st ad=>zmz rec ((ziH pq pt i (CS.drop j) ⟨brD lm um al (r+1),st,ad⟩).bind (zgH CS (l.drop (i+1)) (i+1)))=V∧zCx uses a r l made lm um al st ad∧∀d∈al,d∈made∨d.at'<(i:Int)∨(d.at'=(i:Int)∧d.name∈CS.take j))
      ⟨fun q=>⟨frL [(0,.fz (.sl (l.map enc))),(2,.fz (.sl (made.map enc))),(3,.fz (.i .i64 r)),(4,.fz (.i .i64 uses)),(5,.ptr (7,0) 0),(25,.fz (.sl (CS.map enc))),(26,.ow (17242,q.g1) 4 (q.lm.map enc)),(27,.ow (17245,q.g2) 1 (q.um.map enc)),(28,.ow (17251,q.g3) 2 (q.al.map enc)),(188,.fz (.i .i64 l.length)),(29,.fz (.i .i64 i)),(189,.fz (.i .i64 i)),(198,.fz (.sl (CS.map enc))),(199,.fz (.i .i64 CS.length)),(200,.fz (.i .i64 q.i))],hpL [((7,0),some ⟨[.fz (.i .i64 q.ad)],true,false⟩),((17242,q.g1),some tok),((17245,q.g2),some tok),((17251,q.g3),some tok)],q.m⟩,fun q=>CS.length-q.i⟩
      ⟨0,lm,um,al,st,ad,g1,g2,g3,m2,by omega,by omega,by omega,by omega,by omega,⟨hq8,hS,fun d hd=>(hD d hd).imp id .inl⟩⟩ (by kernel_rfl) ?_ ?_
     ·refine zai ?_ ?_ ?_<;>simp only[go_sem]
      all_goals first|done|rfl|omega
     rintro⟨j,lm,um,al,st,ad,g1,g2,g3,m3,hj,hg1,hg2,hg3,hm3,hq,hS,hD⟩
     try simp only at hj hg1 hg2 hg3 hm3 hq hS hD
     have hlm:=hS.ok.ll
     have hln:=hS.ln
     have hum:=hS.ok.ul
     have hsa:=hS.ok.a0
     have hsb:=hS.ok.a1
     have had:=hS.ad1
     have hal:=hS.all
     have hlmb:(lm.length:Int)≤41+ad:=hlm
     have humb:um.length=lm.length:=hum
     have hil:i<lm.length:=by omega
     rcases Nat.lt_or_ge j CS.length with h6|h6
     rotate_left
     ·have hq9:=hq
      rw[List.drop_eq_nil_of_le h6,ziH]at hq9
      have hq7:zmz rec (zgH CS (l.drop (i+1)) (i+1) ⟨brD lm um al (r+1),st,ad⟩)=V:=hq9
      obtain rfl:j=CS.length:=by omega
      repeat'(first|refine rf fun _=>?_|refine zaj.i (by simp only[List.length_map,List.length_take,List.length_append,List.length_cons,List.length_nil];omega) fun _=>?_|refine And.intro ?_ ?_|exact True.intro|refine rq fun _=>?_|simp only[go_sem,Nat.lt_irrefl,zab,zad,zaa,zaH,zaG,Tryz.f17])
      all_goals refine⟨⟨i+1,lm,um,al,st,ad,g1,g2,g3,m3,by omega,by omega,by omega,by omega,by omega,⟨hq7,hS,fun d hd=>(hD d hd).imp id fun h=>by rcases h with h|h<;>omega⟩⟩,by simp only;omega,?_⟩
      all_goals refine zai ?_ ?_ ?_<;>simp only[go_sem]
      all_goals first|done|rfl|omega
     obtain⟨w,hx⟩:∃w,CS[j]=w:=⟨_,rfl⟩
     have hwn:zas w=true:=kCn.out w (by rw[←hx];exact List.getElem_mem h6)
     have hwt:w∉CS.take j:=fun h=>by
      obtain⟨t,ht,e⟩:=List.getElem_of_mem h
      rw[List.getElem_take,←hx]at e
      have htl:t<j:=by rw[List.length_take]at ht;omega
      have:=(List.pairwise_iff_getElem.1 kCd.out) t j (by omega) h6 htl
      exact this e
     obtain⟨A,hA⟩:∃A:zhO→Bool,A=fun d=>decide (d.at'=(i:Int))&&decide (d.name=w):=⟨_,rfl⟩
     have hseen:w∈(brD lm um al (r+1)).seen.getD i []↔made.any A=true:=by
      rw[show(brD lm um al (r+1)).seen=zdQ al lm.length from rfl,zrj hil,List.any_eq_true,hA]
      constructor
      ·rintro⟨d,hd,e1,e2⟩
       rcases hD d hd with h|h|⟨_,h⟩
       ·exact⟨d,h,by simp[e1,e2]⟩
       ·omega
       ·rw[e2]at h;exact absurd h hwt
      ·rintro⟨d,hd,e⟩
       simp only[Bool.and_eq_true,decide_eq_true_eq]at e
       exact⟨d,hS.gd d hd,e.1,e.2⟩
     have kA:=Kp.mk hA
     clear hA
     repeat'(first|refine rf fun _=>?_|refine zaj.i (by simp only[List.length_map,List.length_take,List.length_append,List.length_cons,List.length_nil];omega) fun _=>?_|refine And.intro ?_ ?_|exact True.intro|refine rq fun _=>?_|simp only[go_sem,h6,hx,zab,zad,zaa,zaH,zaG,Tryz.f17])
     refine zao hm hW1 17000 (lsw [90,93,96,98,145,155,180,183,186,242,245,251] [63,158,1000019,1000030]) (ι:=zep made.length m3 fun _=>True)
      ⟨fun q=>⟨frL [(0,.fz (.sl (l.map enc))),(2,.fz (.sl (made.map enc))),(3,.fz (.i .i64 r)),(4,.fz (.i .i64 uses)),(5,.ptr (7,0) 0),(25,.fz (.sl (CS.map enc))),(26,.ow (17242,g1) 4 (lm.map enc)),(27,.ow (17245,g2) 1 (um.map enc)),(28,.ow (17251,g3) 2 (al.map enc)),(188,.fz (.i .i64 l.length)),(29,.fz (.i .i64 i)),(189,.fz (.i .i64 i)),(198,.fz (.sl (CS.map enc))),(199,.fz (.i .i64 CS.length)),(200,.fz (.i .i64 j)),(31,.fz (.s w.l)),(32,.fz (.b ((made.take q.i).any A))),(204,.fz (.sl (made.map enc))),(205,.fz (.i .i64 made.length)),(206,.fz (.i .i64 q.i))],hpL [((7,0),some ⟨[.fz (.i .i64 ad)],true,false⟩),((17242,g1),some tok),((17245,g2),some tok),((17251,g3),some tok)],q.m⟩,fun q=>made.length-q.i⟩
      ⟨0,m3,by omega,by omega,trivial⟩ (by kernel_rfl) ?_ ?_
     ·refine zai ?_ ?_ ?_<;>simp only[go_sem,List.take_zero,List.any_nil]
      all_goals first|done|rfl|omega
     rintro⟨t,m4,ht,hm4,_⟩
     try simp only at ht hm4
     rcases Nat.lt_or_ge t made.length with h7|h7
     ·obtain⟨d,hd⟩:∃d,made[t]=d:=⟨_,rfl⟩
      have e1:(made.take (t+1)).any A=((made.take t).any A||A d):=by rw[List.take_succ_eq_append_getElem h7,List.any_append,hd];simp
      have hAd:A d=(decide (d.at'=(i:Int))&&decide (d.name=w)):=by rw[kA.out]
      obtain⟨B,hB⟩:∃B,(made.take t).any A=B:=⟨_,rfl⟩
      rw[hB]at e1
      have hnn:(d.name.l=w.l)=(d.name=w):=propext ⟨fun h=>zfb h,fun h=>by rw[h]⟩
      cases B with
      |true=>
       repeat'(first|refine rf fun _=>?_|refine zaj.i (by simp only[List.length_map,List.length_take,List.length_append,List.length_cons,List.length_nil];omega) fun _=>?_|refine And.intro ?_ ?_|exact True.intro|refine rq fun _=>?_|simp only[go_sem,hB,h7,hd,zab,zad,zaa,zaH,zaG,Tryz.f17])
       all_goals refine⟨⟨t+1,m4+1,by omega,by omega,trivial⟩,by simp only;omega,?_⟩
       all_goals refine zai ?_ ?_ ?_<;>simp only[go_sem,e1,Bool.true_or]
       all_goals first|done|rfl|omega
      |false=>
       rw[Bool.false_or]at e1
       by_cases hat:d.at'=(i:Int)
       ·have hatT:(d.at'=(i:Int))=True:=eq_true hat
        by_cases hdn:d.name=w
        ·have hdnT:(d.name.l=w.l)=True:=eq_true (by rw[hdn])
         rw[hAd,decide_eq_true hat,decide_eq_true hdn]at e1
         repeat'(first|refine rf fun _=>?_|refine zaj.i (by simp only[List.length_map,List.length_take,List.length_append,List.length_cons,List.length_nil];omega) fun _=>?_|refine And.intro ?_ ?_|exact True.intro|refine rq fun _=>?_|simp only[go_sem,hB,h7,hd,hatT,hdnT,zab,zad,zaa,zaH,zaG,Tryz.f17])
         all_goals refine⟨⟨t+1,m4+1,by omega,by omega,trivial⟩,by simp only;omega,?_⟩
         all_goals refine zai ?_ ?_ ?_<;>simp only[go_sem,e1,Bool.true_and]
         all_goals first|done|rfl|omega
        ·have hdnT:(d.name.l=w.l)=False:=eq_false (by rw[hnn];exact hdn)
         rw[hAd,decide_eq_true hat,decide_eq_false hdn]at e1
         repeat'(first|refine rf fun _=>?_|refine zaj.i (by simp only[List.length_map,List.length_take,List.length_append,List.length_cons,List.length_nil];omega) fun _=>?_|refine And.intro ?_ ?_|exact True.intro|refine rq fun _=>?_|simp only[go_sem,hB,h7,hd,hatT,hdnT,zab,zad,zaa,zaH,zaG,Tryz.f17])
         all_goals refine⟨⟨t+1,m4+1,by omega,by omega,trivial⟩,by simp only;omega,?_⟩
         all_goals refine zai ?_ ?_ ?_<;>simp only[go_sem,e1,Bool.true_and]
         all_goals first|done|rfl|omega
       ·have hatT:(d.at'=(i:Int))=False:=eq_false hat
        rw[hAd,decide_eq_false hat]at e1
        repeat'(first|refine rf fun _=>?_|refine zaj.i (by simp only[List.length_map,List.length_take,List.length_append,List.length_cons,List.length_nil];omega) fun _=>?_|refine And.intro ?_ ?_|exact True.intro|refine rq fun _=>?_|simp only[go_sem,hB,h7,hd,hatT,zab,zad,zaa,zaH,zaG,Tryz.f17])
        all_goals refine⟨⟨t+1,m4+1,by omega,by omega,trivial⟩,by simp only;omega,?_⟩
        all_goals refine zai ?_ ?_ ?_<;>simp only[go_sem,e1,Bool.false_and]
        all_goals first|done|rfl|omega
     obtain rfl:t=made.length:=by omega
     have hq9:=hq
     rw[zmB h6,hx]at hq9
     simp only at hq9
     obtain⟨O,hO⟩:∃O,made.any A=O:=⟨_,rfl⟩
     have hO2:(made.take made.length).any A=O:=by rw[List.take_length];exact hO
     have etk:CS.take (j+1)=CS.take j++[w]:=by rw[List.take_succ_eq_append_getElem h6,hx]
     cases O with
     |true=>
      rw[if_pos (hseen.2 hO)]at hq9
      repeat'(first|refine rf fun _=>?_|refine zaj.i (by simp only[List.length_map,List.length_take,List.length_append,List.length_cons,List.length_nil];omega) fun _=>?_|refine And.intro ?_ ?_|exact True.intro|refine rq fun _=>?_|simp only[go_sem,Nat.lt_irrefl,hO,hO2,zab,zad,zaa,zaH,zaG,Tryz.f17])
      all_goals refine⟨⟨j+1,lm,um,al,st,ad,g1,g2,g3,m4,by omega,by omega,by omega,by omega,by omega,⟨hq9,hS,fun d hd=>(hD d hd).imp id (.imp id fun h=>⟨h.1,by rw[etk];exact List.mem_append_left _ h.2⟩)⟩⟩,by simp only;omega,?_⟩
      all_goals refine zai ?_ ?_ ?_<;>simp only[go_sem]
      all_goals first|done|rfl|omega
     |false=>
      rw[if_neg (fun h=>by rw[hseen.1 h]at hO;cases hO)]at hq9
      by_cases hfu:300<ad+1
      ·rw[if_pos hfu]at hq9
       have hfT:(300<ad+1)=True:=eq_true hfu
       have hq7:zjR (ad+1)=V:=hq9
       repeat'(first|refine rf fun _=>?_|refine zaj.i (by simp only[List.length_map,List.length_take,List.length_append,List.length_cons,List.length_nil];omega) fun _=>?_|refine And.intro ?_ ?_|exact True.intro|refine rq fun _=>?_|simp only[go_sem,Nat.lt_irrefl,hO,hO2,hfT,zab,zad,zaa,zaH,zaG,Tryz.f17])
       all_goals(
        rw[kq.out,←hq7]
        refine⟨?_,?_⟩
        ·simp only[go_sem,zdK,zcZ]
        ·simp only[go_sem,zdK,zcZ])
      rw[if_neg hfu]at hq9
      have hfT:(300<ad+1)=False:=eq_false hfu
      have hfor:zmu f w:=⟨zji hfB,.inl hks,hwn⟩
      have hIB:BF (zbJ pq pt w):=by
       have:=zhT hfB (nm:=w) (.inl (by rw[hPt])) hwn
       rw[hPt]at this
       exact this
      have hfI:zjP f w=zbJ pq pt w:=by unfold zjP;rw[hPt]
      obtain⟨I,hI⟩:∃I,zbJ pq pt w=I:=⟨_,rfl⟩
      rw[hI]at hIB hfI hq9
      rw[zsb hS.dn hil]at hq9
      have hS':zCx uses a r l made (lm++[I]) (um++[false]) (al++[⟨i,w⟩]) (st++[.mk 4 i 0 w []]) (ad+1):=by
       refine⟨?_,fun y hy=>?_,(hS.dn.snoc hil w).mono (by simp),by simp only[List.length_append,List.length_singleton];omega,fun d hd=>List.mem_append_left _ (hS.gd d hd),by simp only[List.length_append,List.length_singleton];omega,by simp only[List.length_append,List.length_singleton];omega⟩
       ·rw[←zsb hS.dn hil]
        exact hS.ok.saw (by rw[hS.ok.sl];exact hil) hIB.o.b (by omega)
       ·rcases List.mem_append.1 hy with h|h
        ·exact hS.bf y h
        ·rw[List.mem_singleton.1 h];exact hIB
      have hD':∀d∈al++[⟨i,w⟩],d∈made∨d.at'<(i:Int)∨(d.at'=(i:Int)∧d.name∈CS.take (j+1)):=fun d hd=>by
       rcases List.mem_append.1 hd with h|h
       ·exact(hD d h).imp id (.imp id fun h=>⟨h.1,by rw[etk];exact List.mem_append_left _ h.2⟩)
       ·rw[List.mem_singleton.1 h,etk]
        exact .inr (.inr ⟨rfl,List.mem_append_right _ (by simp)⟩)
      have hall2:zbC (al.map enc) 2∧fits al.length 24:=⟨zoi al,zat (by omega) (by decide)⟩
      repeat'(first|refine zaj.i hfb fun _=>?_|refine zaj.i hfor fun _=>?_|refine zaj.i ⟨rfl,zat (by omega) (by decide)⟩ fun _=>?_|refine zaj.i ⟨zoi al,zat (by omega) (by decide)⟩ fun _=>?_|refine rf fun _=>?_|refine zaj.i (by simp only[List.length_map,List.length_take,List.length_append,List.length_cons,List.length_nil];omega) fun _=>?_|refine And.intro ?_ ?_|exact True.intro|refine rq fun _=>?_|simp only[go_sem,Nat.lt_irrefl,hO,hO2,hfT,h5,hf,hfI,zab,zad,zaa,zaH,zaG,Tryz.f17])
      all_goals refine⟨⟨j+1,lm++[I],um++[false],al++[⟨i,w⟩],st++[.mk 4 i 0 w []],ad+1,m4,m4+1,m4+2,m4+3,by omega,by omega,by omega,by omega,by omega,⟨hq9,hS',hD'⟩⟩,by simp only;omega,?_⟩
      all_goals refine zbl [] [] [] ?_ ?_ ?_ ?_ ?_<;>simp only[go_sem,List.map_append]
      all_goals first|done|rfl|omega
    ·obtain rfl:i=l.length:=by omega
     rw[List.drop_length]at hq
     have hq7:zmz rec (.go ⟨brD lm um al (r+1),st,ad⟩)=V:=hq
     unfold zmz at hq7
     simp only at hq7
     by_cases hst:st=[]
     ·rw[if_pos hst]at hq7
      have hle:((lm.length:Int)=l.length)=True:=eq_true (by rw[hln,hst];simp)
      repeat'(first|refine rf fun _=>?_|refine zaj.i (by simp only[List.length_map,List.length_take,List.length_append,List.length_cons,List.length_nil];omega) fun _=>?_|refine And.intro ?_ ?_|exact True.intro|refine rq fun _=>?_|simp only[go_sem,Nat.lt_irrefl,hle,zab,zad,zaa,zaH,zaG,Tryz.f17])
      all_goals(
       rw[kq.out,←hq7]
       refine⟨?_,?_⟩
       ·simp only[go_sem,zkx]
       ·simp only[go_sem,zkx])
     ·rw[if_neg hst]at hq7
      have hs1:1≤st.length:=List.length_pos_iff.2 hst
      have hle:((lm.length:Int)=l.length)=False:=eq_false (by omega)
      have hrun:=ki.out lm um al (r+1) ad hS.ok hS.bf hS.dn hS.all (by omega)
      obtain⟨rs,hrs⟩:∃rs,rec (brD lm um al (r+1)) ad=rs:=⟨_,rfl⟩
      rw[hrs]at hrun hq7
      have hcv:zcE V=zcE rs:=by rw[←hq7];rfl
      have hav:V.added=rs.added:=by rw[←hq7]
      repeat'(first|refine rf fun _=>?_|refine zaj.i (by simp only[List.length_map,List.length_take,List.length_append,List.length_cons,List.length_nil];omega) fun _=>?_|refine And.intro ?_ ?_|exact True.intro|refine rq fun _=>?_|simp only[go_sem,Nat.lt_irrefl,hle,zab,zad,zaa,zaH,zaG,Tryz.f17])
      refine zaI.i (zer (T:=7) (ds:=[.ow (17242,g1) 4 (lm.map enc),.ow (17245,g2) 1 (um.map enc),.ow (17251,g3) 2 (al.map enc),.fz (.i .i64 (r+1)),.fz (.i .i64 uses)]) (xs:=[.sl (lm.map enc),.sl (um.map enc),.sl (al.map enc),.i .i64 (r+1),.i .i64 uses]) (cs:=[.i .i64 ad]) (cs':=[.i .i64 rs.added]) rfl hrun (by simp only[go_sem]) ?_)
      repeat'(first|refine rf fun _=>?_|refine zaj.i (by simp only[List.length_map,List.length_take,List.length_append,List.length_cons,List.length_nil];omega) fun _=>?_|refine And.intro ?_ ?_|exact True.intro|refine rq fun _=>?_|simp only[go_sem,zab,zad,zaa,zaH,zaG,Tryz.f17])
      all_goals(
       rw[kq.out]
       refine⟨?_,?_⟩
       ·simp only[go_sem,hcv]
       ·simp only[go_sem,hav]))
end Go.Proofs.YtdlioodgfopmfaaGreatDoor
