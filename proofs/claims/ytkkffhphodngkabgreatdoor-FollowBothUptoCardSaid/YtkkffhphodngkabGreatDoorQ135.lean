import Derived.Test.YtkkffhphodngkabGreatDoorAT
import Derived.Test.YtkkffhphodngkabGreatDoorY19
import Derived.Test.YtkkffhphodngkabGreatDoorY13
set_option maxRecDepth 100000
set_option maxHeartbeats 1000000
set_option linter.unusedSimpArgs false
namespace Go.Proofs.YtkkffhphodngkabGreatDoor
open Go Go.Abs Go.Proofs
def zwx:Tv:=(.q 0 (.q 1 (.q 2 (.q 3 (.q 4 (.q 5 (.q 6 (.br [(7,(.br [(8,(.q 9 (.q 10 (.q 11 (.q 12 (.br [(13,(.br [(14,(.q 15 (.q 16 .leaf)))]))])))))),(13,(.br [(8,(.q 9 (.q 10 (.q 11 (.q 12 (.br [(14,(.q 15 (.q 16 .leaf)))]))))))]))])),(13,(.br [(7,(.br [(8,(.q 9 (.q 10 (.q 11 (.q 12 (.br [(14,(.q 15 (.q 16 .leaf)))]))))))]))]))]))))))))
def zmn:Tv:=(.q 0 (.q 1 (.q 2 (.q 3 (.q 4 (.q 5 (.q 6 .leaf)))))))
def zwy:Tv:=(.q 0 (.q 2 (.q 3 (.q 4 (.q 5 (.q 6 (.q 7 (.q 8 (.q 9 (.br [(1,(.br [(10,(.q 11 (.br [(12,.leaf)])))])),(10,(.q 1 (.q 11 (.br [(12,.leaf)]))))]))))))))))
def zwz:Tv:=(.q 0 (.q 1 (.q 2 (.q 3 (.q 4 (.q 5 (.br [(6,(.br [(7,.leaf)]))])))))))
theorem zx8 {l:List Abs.zac}(h:∀f∈l,brF f):(l.flatMap zaP).length≤l.length*1000000:=by
 induction l with
 |nil=>simp
 |cons x l ih=>
  rw[List.flatMap_cons,List.length_append,List.length_cons,Nat.succ_mul]
  have h1:=zrE (h x (by simp))
  have h2:=ih fun f hf=>h f (by simp[hf])
  omega
theorem znZ {l:List Abs.zac}(h:∀f∈l,brF f):(zaH l).length≤l.length*1000000:=by
 rw[zji]
 have h1:=zx8 h
 have h2:(zdx (zdj (l.flatMap zaP))).length≤(zdj (l.flatMap zaP)).length:=by
  unfold zdx
  rw[List.length_map]
  have:=zdh ((zdj (l.flatMap zaP)).map (·.l))
  rw[List.length_map]at this
  exact this
 rw[zdk]at h2
 omega
theorem zrt:∀xs:List FD,D.toFDs (xs.map .fz)=some xs
 |[]=>rfl
 |x::xs=>by rw[List.map_cons,D.toFDs,zrt xs];rfl
theorem zJY {b:Brn}{i:Nat}{fs:List Abs.zac}{x2:D}{H:zav}{n g1:Nat}{R:D→zav→Nat→Prop}{B':Brn}(hi:i<b.used.length)(hb:b.list.length≤100000∧b.used.length≤100000∧b.seen.length≤100000∧fs.length≤100000)(hs:∀s∈b.seen,s.length≤1000000)
  (ho:H (95007,g1)=some ⟨(b.used.map (D.fz∘enc)).set i (.fz (.b true)),false,b.used.isEmpty⟩)(h2:x2= .fz (.sl (fs.map enc))∨x2= .full (fs.map enc))(hB:zbT (zcX b i) fs=B')
  (hR:R (.fz (enc B')) (zaI H (95007,g1) none) n):zaw Tryz.prog GA 51 [.agg [.fz (.sl (b.list.map enc)),.arr (95007,g1) 1 0 b.used.length,.fz (.sl (b.seen.map enc)),.fz (.i .i64 b.rounds)],x2] H n R:=by
 subst hB
 obtain⟨U,hU⟩:∃U,b.used.set i true=U:=⟨_,rfl⟩
 have hUl:U.length=b.used.length:=by rw[←hU,List.length_set]
 have hc:(b.used.map (D.fz∘enc)).set i (.fz (.b true))=(U.map enc).map .fz:=by
  rw[←hU,List.map_map,List.map_set];rfl
 rw[hc]at ho
 have hne:b.used.isEmpty=false:=by
  cases hb:b.used with
  |nil=>rw[hb]at hi;simp at hi
  |cons=>rfl
 have hb2:(zcX b i).list.length≤100000∧(zcX b i).used.length≤100000∧(zcX b i).seen.length≤100000∧fs.length≤100000:=⟨hb.1,by unfold zcX;simp only[List.length_set];exact hb.2.1,hb.2.2.1,hb.2.2.2⟩
 have em:enc (zcX b i)= .agg [.sl (b.list.map enc),.sl (U.map enc),.sl (b.seen.map enc),.i .i64 b.rounds]:=by rw[←hU];rfl
 refine ziy (95007,g1) (U.map enc) ho (fun h=>by simp only[hne]at h;cases h) (zrt _) (fun x hx=>by obtain⟨y,_,rfl⟩:=List.mem_map.1 hx;rfl) (args':=[.agg [.fz (.sl (b.list.map enc)),.fz (.sl (U.map enc)),.fz (.sl (b.seen.map enc)),.fz (.i .i64 b.rounds)],x2]) ?_ ?_
 ·rcases h2 with rfl|rfl<;>simp only[ztx,fzD,List.length_map,hUl,and_self,if_true]
 ·refine zDf (b:=zcX b i) (fs:=fs) hb2 hs ?_ hR
  rw[em]
  rcases h2 with rfl|rfl<;>rfl
theorem zDe (k:Nat){b B':Brn}{fs:List Abs.zac}{args:List D}{H:zav}{n:Nat}{R:D→zav→Nat→Prop}(hb:b.list.length≤100000∧b.used.length≤100000∧b.seen.length≤100000∧fs.length≤100000)(hs:∀s∈b.seen,s.length≤1000000)
  (hB:zbT b fs=B')(ha:D.toFDs args=some [enc b,.sl (fs.map enc)])
  (hR:∀r g n',n≤r→r<n'→n≤g→g<n'→R (.agg [.fz (.sl (B'.list.map enc)),.fz (.sl (B'.used.map enc)),.arr (51043,r) 1 0 B'.seen.length,.fz (.i .i64 B'.rounds)]) (hpX [((51043,r),some ⟨zbl k g B'.seen,false,B'.seen.isEmpty⟩),((99007,g),some tok)] H) n'):zaw Tryz.prog GA 51 args H n R:=by
 subst hB
 refine zLW k hb hs ha fun r g n' h1 h2 h3 h4=>?_
 have h:=hR r g n' h1 h2 h3 h4
 have e:(zbT b fs).seen.length=b.seen.length+fs.length:=by unfold zbT;simp
 rw[e]at h
 exact h
theorem zmi:∀{ds:List D} {xs:List FD},ds.length=xs.length→(∀j,j<xs.length→(ds.getD j .junk).toFD=some (xs.getD j .nilf))→D.toFDs ds=some xs
 |[],[],_,_=>rfl
 |[],_::_,h,_=>by simp at h
 |_::_,[],h,_=>by simp at h
 |d::ds,x::xs,h,hj=>by
  have h0:=hj 0 (by simp)
  have ih:=zmi (ds:=ds) (xs:=xs) (by simpa using h) (fun j h2=>by have:=hj (j+1) (by simpa using h2);simpa using this)
  simp only[List.getD_cons_zero]at h0
  rw[D.toFDs,h0,ih]
theorem zok {k g j:Nat}{S:List (List Str)}(h:j<S.length):((zbl k g S).getD j .junk).toFD=some (.sl (S[j].map enc)):=by
 rw[zey h]
 split<;>rfl
theorem ztd {k g:Nat}{S:List (List Str)}:D.toFDs (zbl k g S)=some (S.map enc):=by
 refine zmi (by rw[zaT,List.length_map]) fun j hj=>?_
 rw[List.length_map]at hj
 rw[zok hj,List.getD_eq_getElem?_getD,List.getElem?_eq_getElem (by simpa using hj),Option.getD_some,List.getElem_map]
 rfl
theorem zy0 {k g i es:Nat}{id:Abs.Id}{S:List (List Str)}{x:List Str}(hi:i<S.length):D.toFDs ((zbl k g S).set i (.ow id es (x.map enc)))=some ((S.set i x).map enc):=by
 refine zmi (by rw[List.length_set,zaT,List.length_map,List.length_set]) fun j hj=>?_
 rw[List.length_map,List.length_set]at hj
 rw[List.getD_eq_getElem?_getD (l:=(S.set i x).map enc),List.getElem?_eq_getElem (by simpa using hj),Option.getD_some,List.getElem_map]
 by_cases e:i=j
 ·subst e
  rw[List.getD_eq_getElem?_getD,List.getElem?_set_self (by rw[zaT];exact hi),Option.getD_some,List.getElem_set_self]
  rfl
 ·rw[List.getD_eq_getElem?_getD,List.getElem?_set_ne e,←List.getD_eq_getElem?_getD,zok hj,List.getElem_set_ne e]
  rfl
theorem zHt (k:Nat){b B':Brn}{fs:List Abs.zac}{cells:List D}{v:Bool}{H:zav}{n r0 len:Nat}{x2:D}{R:D→zav→Nat→Prop}(hb:b.list.length≤100000∧b.used.length≤100000∧b.seen.length≤100000∧fs.length≤100000)(hs:∀s∈b.seen,s.length≤1000000)
  (hB:zbT b fs=B')(ho:H (51043,r0)=some ⟨cells,false,v⟩)(hv:v=true→b.seen=[])(hc:D.toFDs cells=some (b.seen.map enc))(hl:len=b.seen.length)(h2:x2= .full (fs.map enc))
  (hR:∀r g n',n≤r→r<n'→n≤g→g<n'→R (.agg [.fz (.sl (B'.list.map enc)),.fz (.sl (B'.used.map enc)),.arr (51043,r) 1 0 B'.seen.length,.fz (.i .i64 B'.rounds)]) (hpX [((51043,r),some ⟨zbl k g B'.seen,false,B'.seen.isEmpty⟩),((99007,g),some tok)] (zaI H (51043,r0) none)) n'):
  zaw Tryz.prog GA 51 [.agg [.fz (.sl (b.list.map enc)),.fz (.sl (b.used.map enc)),.arr (51043,r0) 1 0 len,.fz (.i .i64 b.rounds)],x2] H n R:=by
 subst hl h2
 refine ziy (51043,r0) (b.seen.map enc) ho (fun h=>by rw[hv h];rfl) hc (fun x hx=>by obtain⟨y,_,rfl⟩:=List.mem_map.1 hx;rfl) (args':=[.agg [.fz (.sl (b.list.map enc)),.fz (.sl (b.used.map enc)),.fz (.sl (b.seen.map enc)),.fz (.i .i64 b.rounds)],.full (fs.map enc)]) ?_ ?_
 ·simp only[ztx,fzD,List.length_map,and_self,if_true]
 ·exact zDe k hb hs hB rfl hR
def ztA (CS:List Str)(c:Brn):List Abs.zac→Nat→Nat
 |[],_=>c.seen.length
 |f::fs,i=>if(zah f).1=3∧(∃w∈CS,w∉c.seen.getD i [])then i else ztA CS c fs (i+1)
def ztB (CS:List Str)(c:Brn)(ws:List Str)(i:Nat)(fs:List Abs.zac):Nat:=if∃w∈ws,w∉c.seen.getD i []then i else ztA CS c fs (i+1)
theorem zn0 {CS:List Str}{c:Brn}{l:List Abs.zac}{i k:Nat}(h:i<l.length):ztA CS c (l.drop i) k=if(zah l[i]).1=3∧(∃w∈CS,w∉c.seen.getD k [])then k else ztA CS c (l.drop (i+1)) (k+1):=by
 rw[List.drop_eq_getElem_cons h,ztA]
theorem zBB {CS:List Str}{c:Brn}{ws:List Str}{i j:Nat}{fs:List Abs.zac}(h:j<ws.length)(hin:ws[j]∈c.seen.getD i []):ztB CS c (ws.drop j) i fs=ztB CS c (ws.drop (j+1)) i fs:=by
 unfold ztB
 rw[List.drop_eq_getElem_cons h]
 have e:(∃w∈ws[j]::ws.drop (j+1),w∉c.seen.getD i [])↔(∃w∈ws.drop (j+1),w∉c.seen.getD i []):=by
  constructor
  ·rintro⟨w,hw,hn⟩
   rcases List.mem_cons.1 hw with rfl|hw
   ·exact absurd hin hn
   ·exact⟨w,hw,hn⟩
  ·rintro⟨w,hw,hn⟩
   exact⟨w,List.mem_cons_of_mem _ hw,hn⟩
 simp only[e]
theorem zyG {CS:List Str}{c:Brn}{ws:List Str}{i j:Nat}{fs:List Abs.zac}(h:j<ws.length)(hin:ws[j]∉c.seen.getD i []):ztB CS c (ws.drop j) i fs=i:=by
 unfold ztB
 rw[List.drop_eq_getElem_cons h,if_pos ⟨_,List.mem_cons_self,hin⟩]
theorem zyF {CS:List Str}{c:Brn}{ws:List Str}{i j:Nat}{fs:List Abs.zac}(h:ws.length≤j):ztB CS c (ws.drop j) i fs=ztA CS c fs (i+1):=by
 unfold ztB
 rw[List.drop_eq_nil_of_le h,if_neg (by rintro⟨w,hw,_⟩;simp at hw)]
theorem zyE {CS:List Str}{c:Brn}{l:List Abs.zac}{i k:Nat}(h:i<l.length)(hk:(zah l[i]).1=3):ztA CS c (l.drop i) k=ztB CS c CS k (l.drop (i+1)):=by
 rw[zn0 h]
 unfold ztB
 by_cases e:∃w∈CS,w∉c.seen.getD k []
 ·rw[if_pos ⟨hk,e⟩,if_pos e]
 ·rw[if_neg (fun h=>e h.2),if_neg e]
theorem zBA {CS:List Str}{c:Brn}{l:List Abs.zac}{i k:Nat}(h:i<l.length)(hk:¬(zah l[i]).1=3):ztA CS c (l.drop i) k=ztA CS c (l.drop (i+1)) (k+1):=by
 rw[zn0 h,if_neg (fun h=>hk h.1)]
theorem zxi {b:Brn}:zbT b []=b:=by
 unfold zbT
 simp only[List.append_nil,List.length_nil,List.replicate_zero]
def zHh (uses a:Int)(n:Nat)(s:GS):Prop:=zcN uses s.c s.added∧n≤s.c.list.length∧(s.steps.length:Int)+a≤s.added
structure zzw (n n0:Nat)(p:Nat→GS→Prop) where
 i:Nat
 s:GS
 r:Nat
 g:Nat
 z:Nat
 m:Nat
 hi:i≤n
 hr:r<m
 hg:g<m
 hz:z<m
 hm:n0≤m
 hp:p i s
theorem zgI {xs ys:List FD}:zaf (xs++ys)=zaf xs++zaf ys:=by simp[zaf]
theorem zDK {xs:List FD}{a:FD}{l:List FD}:(zaf (xs++[FD.agg (a::l)])).isEmpty=false:=by
 rw[zgI]
 have:zaf [FD.agg (a::l)]=D.fz a::l.map .fz:=by simp[zaf,FD.cells]
 rw[this]
 cases zaf xs<;>rfl
theorem zxH {n n':Nat}{pre:Abs.Id→Abs.Id}{vn:Abs.Id→Bool}{z:Abs.Id→Option (List FD)}{H:zav}{k g:Nat}{S:List (List Str)}(hg:g<n'):Drs n n' pre vn z H (zbl k g S) (zbl k g S):=by
 have h:=zuJ (n:=n) (pre:=pre) (vn:=vn) (z:=z) (H:=H) (k:=k) (m:=0) (S:=S) hg
 simpa using h
theorem zJq {c:Brn}{uses ad:Int}{r:Res}{H:zav}{n r0 k g:Nat}{v:Bool}{R:D→zav→Nat→Prop}
  (hrun:zaw Tryz.prog GA 50 [.ptr (7,0) 0,.fz (enc c)] (hpL [((7,0),some ⟨[.fz (.i .i64 uses),.fz (.i .i64 ad)],true,false⟩)]) 1
   (fun d H' _=>D.val d=some (.tup [.fz (enc r.p),.fz (.b r.ok),.fz (.b r.lim)])∧H' (7,0)=some ⟨[FD.i .i64 uses,.i .i64 r.added].map .fz,true,false⟩))
  (ho:H (51043,r0)=some ⟨zbl k g c.seen,false,v⟩)(hv:v=true→c.seen=[])(hs:H (7,0)=some ⟨[.fz (.i .i64 uses),.fz (.i .i64 ad)],true,false⟩)
  (hR:R (.tup [.fz (enc r.p),.fz (.b r.ok),.fz (.b r.lim)]) (zaI (zaI H (51043,r0) none) (7,0) (some ⟨[FD.i .i64 uses,.i .i64 r.added].map .fz,true,false⟩)) n):
  zaw Tryz.prog GA 50 [.ptr (7,0) 0,.agg [.fz (.sl (c.list.map enc)),.fz (.sl (c.used.map enc)),.arr (51043,r0) 1 0 c.seen.length,.fz (.i .i64 c.rounds)]] H n R:=by
 refine ziy (51043,r0) (c.seen.map enc) ho (fun h=>by rw[hv h];rfl) ztd (fun x hx=>by obtain⟨y,_,rfl⟩:=List.mem_map.1 hx;rfl) (args':=[.ptr (7,0) 0,.agg [.fz (.sl (c.list.map enc)),.fz (.sl (c.used.map enc)),.fz (.sl (c.seen.map enc)),.fz (.i .i64 c.rounds)]]) ?_ ?_
 ·simp only[ztx,fzD,List.length_map,and_self,if_true]
 ·refine zcE (T:=7) (xs:=[enc c]) (cs:=[.i .i64 uses,.i .i64 ad]) (cs':=[.i .i64 uses,.i .i64 r.added]) rfl hrun ?_ hR
  unfold zaI
  rw[if_neg (by simp)]
  exact hs
structure zC5 (n n0:Nat)(P:Nat→List Prf→Prf→Prop) where
 i:Nat
 tl:List Prf
 p:Prf
 m:Nat
 hi:i≤n
 hm:n0≤m
 hp:P i tl p
structure zHk (n n0:Nat)(p:Nat→List Prf→Int→Prop) where
 i:Nat
 subs:List Prf
 a:Int
 g:Nat
 m:Nat
 hi:i≤n
 hg:g<m
 hm:n0≤m
 hp:p i subs a
def zzr:List Int:=[1,4,2]
def zJr (uses:Int)(rec:Brn→Int→Res)(m:Nat):Prop:=∀(b:Brn) (a:Int),zcN uses b a→301-a≤m→zaw Tryz.prog GA 50 [.ptr (7,0) 0,.fz (enc b)] (hpL [((7,0),some ⟨[.fz (.i .i64 uses),.fz (.i .i64 a)],true,false⟩)]) 1
  (fun d H' _=>D.val d=some (.tup [.fz (enc (rec b a).p),.fz (.b (rec b a).ok),.fz (.b (rec b a).lim)])∧H' (7,0)=some ⟨[FD.i .i64 uses,.i .i64 (rec b a).added].map .fz,true,false⟩)
set_option maxHeartbeats 16000000 in
theorem zBM {uses:Int}{m:Nat}{rec:Brn→Int→Res}(hih:zJr uses rec m)(hadd:∀b a,a≤300→zkV a (rec b a)):zJr uses (zmb rec uses) (m+1):=by
 intro b a hok hm1
 obtain⟨V,hV⟩:∃V,zmb rec uses b a=V:=⟨_,rfl⟩
 rw[hV]
 obtain⟨Q,hQ⟩:∃Q:D→zav→Nat→Prop,Q=(fun d H' _=>D.val d=some (.tup [.fz (enc V.p),.fz (.b V.ok),.fz (.b V.lim)])∧H' (7,0)=some ⟨[FD.i .i64 uses,.i .i64 V.added].map .fz,true,false⟩):=⟨_,rfl⟩
 rw[←hQ]
 have kq:=Kp.mk hQ
 clear hQ
 unfold zmb at hV
 have hll:=hok.ll
 have ha0:=hok.a0
 have ha1:=hok.a1
 have hr0:=hok.r0
 have hr1:=hok.r1
 have hu:=hok.u
 have hcl:(∀f∈b.list,brF f)∧b.list.length≤100000:=⟨hok.br,by omega⟩
 have ko:=Kp.mk hok
 have ki:=Kp.mk hih
 have kd:=Kp.mk hadd
 clear hok hih hadd
 refine zae (N:=304) hm hZ3 50000 (lsw [184,256] [270,1000028,1000044,1000063,1000064]) zMV Tryz.func50 rfl rfl (by simp) (by kernel_rfl) ?_
 cases hM:zc4 b.list with
 |some p=>
  rw[hM]at hV
  simp only at hV
  subst hV
  have hR:=zhU hM
  clear hM
  repeat'(first|refine zaA.i hcl fun _=>?_|refine And.intro ?_ ?_|exact True.intro|refine rq fun _=>?_|refine rf fun _=>?_|simp only[go_sem,hR,zaB,zab,zal,zad,zaa,Tryz.f50])
  all_goals(
   rw[kq.out]
   refine⟨?_,?_⟩
   ·simp only[go_sem,zaS]
   ·simp only[go_sem,zaS])
 |none=>
  rw[hM]at hV
  simp only at hV
  have hR:=zhT hM
  obtain⟨K,hK⟩:∃K,zft rec uses b a=K:=⟨_,rfl⟩
  rw[hK]at hV
  repeat'(first|refine zaA.i hcl fun _=>?_|refine And.intro ?_ ?_|exact True.intro|refine rq fun _=>?_|refine rf fun _=>?_|simp only[go_sem,hR,zb0,zaB,zab,zal,zad,zaa,Tryz.f50])
  refine zat hm hZ3 50000 (lsw [184,256] [270,1000028,1000044,1000063,1000064]) (ι:=zcW 3 4 fun w=>zfz rec b a K (zzr.drop w)=V)
   ⟨fun q=>⟨frL [(0,.ptr (7,0) 0),(3,.ptr (50003,1) 0),(4,.ptr (50004,2) 0),(5,.fz (.b false)),(6,.fz (.b false)),(55,.full [.i .i64 1,.i .i64 4,.i .i64 2]),(56,.fz (.i .i64 3)),(57,.fz (.i .i64 q.i))],hpL [((50003,1),some ⟨[.fz (.sl (b.list.map enc)),.fz (.sl (b.used.map enc)),.fz (.sl (b.seen.map enc)),.fz (.i .i64 b.rounds)],true,false⟩),((50004,2),some ⟨[.fz (.i .i64 0),.fz (.i .i64 0),.fz (.i .i64 0),.fz (.s []),.full []],true,false⟩),((7,0),some ⟨[.fz (.i .i64 uses),.fz (.i .i64 a)],true,false⟩)],q.m⟩,fun q=>3-q.i⟩
   ⟨0,4,by omega,by omega,hV⟩ (by kernel_rfl) ?_ ?_
  ·refine zaj ?_ ?_ ?_<;>simp only[go_sem]
   all_goals first|done|rfl|omega
  rintro⟨w,q0,hw,hq0,hP⟩
  try simp only at hw hq0 hP
  clear hR hM
  rcases Nat.lt_or_ge w 3 with hw3|hw3
  ·have hcase:w=0∨w=1∨w=2:=by omega
   rcases hcase with rfl|rfl|rfl
   ·have hP2:(match zc9 1 (b.list.drop 0) (b.used.drop 0) 0 with
     |some i=>zcR rec b a i (b.list.getD i za7)
     |none=>zfz rec b a K (zzr.drop 1))=V:=hP
    obtain⟨X,hX⟩:∃X,zc9 1 (b.list.drop 0) (b.used.drop 0) 0=X:=⟨_,rfl⟩
    rw[hX]at hP2
    repeat'(first|refine And.intro ?_ ?_|exact True.intro|refine rq fun _=>?_|refine rf fun _=>?_|simp only[go_sem,zaB,zab,zal,zad,zaa,Tryz.f50])
    refine zat hm hZ3 50000 (lsw [184,256] [270,1000028,1000044,1000063,1000064]) (ι:=zcW b.list.length q0 fun i=>zc9 1 (b.list.drop i) (b.used.drop i) i=X)
     ⟨fun q=>⟨frL [(0,.ptr (7,0) 0),(3,.ptr (50003,1) 0),(4,.ptr (50004,2) 0),(5,.fz (.b false)),(6,.fz (.b false)),(10,.fz (.i .i64 1)),(55,.full [.i .i64 1,.i .i64 4,.i .i64 2]),(56,.fz (.i .i64 3)),(57,.fz (.i .i64 0)),(62,.fz (.sl (b.list.map enc))),(63,.fz (.i .i64 b.list.length)),(64,.fz (.i .i64 q.i))],hpL [((50003,1),some ⟨[.fz (.sl (b.list.map enc)),.fz (.sl (b.used.map enc)),.fz (.sl (b.seen.map enc)),.fz (.i .i64 b.rounds)],true,false⟩),((50004,2),some ⟨[.fz (.i .i64 0),.fz (.i .i64 0),.fz (.i .i64 0),.fz (.s []),.full []],true,false⟩),((7,0),some ⟨[.fz (.i .i64 uses),.fz (.i .i64 a)],true,false⟩)],q.m⟩,fun q=>b.list.length-q.i⟩
     ⟨0,q0,by omega,by omega,hX⟩ (by kernel_rfl) ?_ ?_
    ·refine zaj ?_ ?_ ?_<;>simp only[go_sem]
     all_goals first|done|rfl|omega
    rintro⟨i,q1,hi,hq1,hE⟩
    try simp only at hi hq1 hE
    rcases Nat.lt_or_ge i b.list.length with h1|h1
    rotate_left
    ·rw[zjq h1]at hE
     rw[←hE]at hP2
     simp only at hP2
     obtain rfl:i=b.list.length:=by omega
     repeat'(first|refine And.intro ?_ ?_|exact True.intro|refine rq fun _=>?_|refine rf fun _=>?_|simp only[go_sem,Nat.lt_irrefl,zaB,zab,zal,zad,zaa,Tryz.f50])
     all_goals refine⟨⟨1,q1,by omega,by omega,hP2⟩,by simp only;omega,?_⟩
     all_goals refine zaj ?_ ?_ ?_<;>simp only[go_sem]
     all_goals first|done|rfl|omega
    have hul:=ko.out.ul
    have h2:i<b.used.length:=by omega
    obtain⟨f,hf⟩:∃f,b.list[i]=f:=⟨_,rfl⟩
    obtain⟨u,hu2⟩:∃u,b.used[i]=u:=⟨_,rfl⟩
    have hfb:brF f:=ko.out.br f (by rw[←hf];exact List.getElem_mem h1)
    rw[zhu h1 h2,hf,hu2]at hE
    obtain⟨k,hk⟩:∃k,(zah f).1=k:=⟨_,rfl⟩
    rw[hk]at hE
    cases u with
    |true=>
     rw[if_neg (by simp)]at hE
     repeat'(first|refine And.intro ?_ ?_|exact True.intro|refine rq fun _=>?_|refine rf fun _=>?_|simp only[go_sem,h1,h2,hf,hu2,hk,zaB,zab,zal,zad,zaa,Tryz.f50])
     all_goals refine⟨⟨i+1,q1+1,by omega,by omega,hE⟩,by simp only;omega,?_⟩
     all_goals refine zaj ?_ ?_ ?_<;>simp only[go_sem]
     all_goals first|done|rfl|omega
    |false=>
     by_cases hkw:k=1
     rotate_left
     ·rw[if_neg (by simp[hkw])]at hE
      have hkw':(k=1)=False:=eq_false hkw
      repeat'(first|refine zaA.i hfb fun _=>?_|refine And.intro ?_ ?_|exact True.intro|refine rq fun _=>?_|refine rf fun _=>?_|simp only[go_sem,h1,h2,hf,hu2,hk,hkw',zaB,zab,zal,zad,zaa,Tryz.f50])
      all_goals refine⟨⟨i+1,q1+1,by omega,by omega,hE⟩,by simp only;omega,?_⟩
      all_goals refine zaj ?_ ?_ ?_<;>simp only[go_sem]
      all_goals first|done|rfl|omega
     subst hkw
     rw[if_pos ⟨rfl,rfl⟩]at hE
     rw[←hE]at hP2
     simp only at hP2
     have hfg:b.list.getD i za7=f:=by rw[List.getD_eq_getElem?_getD,List.getElem?_eq_getElem h1,hf];rfl
     rw[hfg]at hP2
     obtain⟨pb1,pb2,pb3,pb4⟩:=zeU hfb
     obtain⟨po,pq,pt,hPt⟩:∃o q t,zah f=(1,o,q,t):=⟨(zah f).2.1,(zah f).2.2.1,(zah f).2.2.2,by rw[←hk]⟩
     rw[hPt]at pb1 pb2 pb3 pb4
     simp only at pb1 pb2 pb3 pb4
     unfold zcR at hP2
     rw[hPt]at hP2
     rw[if_pos rfl]at hP2
     have hpo1:1≤po.length:=by have:=zmH (f:=f) (by rw[hPt]);rw[hPt]at this;exact this
     have hvi:b.used.isEmpty=false∧i+1≤b.used.length:=⟨by cases hb:b.used with|nil=>rw[hb]at h2;simp at h2|cons=>rfl,by omega⟩
     by_cases hfu:300<a+po.length
     ·rw[if_pos hfu]at hP2
      have hfT:(300<a+(po.length:Int))=True:=eq_true hfu
      repeat'(first|refine zaA.i hfb fun _=>?_|refine zaA.i hvi fun _=>?_|refine zak.i (zen (cs:=b.used.map enc) (xs:=[FD.sl (b.used.map enc)]) rfl (ziN (l:=b.used) (by omega)) fun g1 n1 hg1 hn1=>?_)|refine zak.i (znA (uses:=uses) (by simp only[go_sem]) ⟨ha0,ha1⟩ (by omega) ?_)|refine And.intro ?_ ?_|exact True.intro|refine rq fun _=>?_|refine rf fun _=>?_|simp only[go_sem,hfT,h1,h2,hf,hu2,hk,hPt,zaB,zab,zal,zad,zaa,Tryz.f50])
      all_goals(
       rw[kq.out,←hP2]
       refine⟨?_,?_⟩
       ·simp only[go_sem,zaS,zoL,zb0]
       ·simp only[go_sem,zaS,zoL,zb0])
     ·rw[if_neg hfu]at hP2
      have hfT:(300<a+(po.length:Int))=False:=eq_false hfu
      repeat'(first|refine zaA.i hfb fun _=>?_|refine zaA.i hvi fun _=>?_|refine zak.i (zen (cs:=b.used.map enc) (xs:=[FD.sl (b.used.map enc)]) rfl (ziN (l:=b.used) (by omega)) fun g1 n1 hg1 hn1=>?_)|refine zak.i (znA (uses:=uses) (by simp only[go_sem]) ⟨ha0,ha1⟩ (by omega) ?_)|refine And.intro ?_ ?_|exact True.intro|refine rq fun _=>?_|refine rf fun _=>?_|simp only[go_sem,hfT,h1,h2,hf,hu2,hk,hPt,zaB,zab,zal,zad,zaa,Tryz.f50])
      obtain⟨B',hB'⟩:∃B',zbT (zcX b i) po=B':=⟨_,rfl⟩
      have hok':zcN uses B' (a+po.length):=by rw[←hB'];exact(ko.out.mark i).add pb1 rfl (by omega)
      rw[hB']at hP2
      obtain⟨r,hr⟩:∃r,rec B' (a+po.length)=r:=⟨_,rfl⟩
      rw[hr]at hP2
      have hrun:=ki.out B' (a+po.length) hok' (by omega)
      rw[hr]at hrun
      have hsn:∀s∈b.seen,s.length≤1000000:=fun s hs=>by have:=ko.out.ss s hs;omega
      have hsl:=ko.out.sl
      refine zak.i (zJY (b:=b) (i:=i) (fs:=po) h2 ⟨by omega,by omega,by omega,by omega⟩ hsn (by simp only[go_sem]) (.inl rfl) hB' ?_)
      repeat'(first|refine And.intro ?_ ?_|exact True.intro|refine rq fun _=>?_|refine rf fun _=>?_|simp only[go_sem,zaB,zab,zal,zad,zaa,Tryz.f50])
      refine zak.i (zcE (T:=7) (xs:=[enc B']) (cs:=[.i .i64 uses,.i .i64 (a+po.length)]) rfl hrun (by simp only[go_sem]) ?_)
      repeat'(first|refine And.intro ?_ ?_|exact True.intro|refine rq fun _=>?_|refine rf fun _=>?_|simp only[go_sem,zaB,zab,zal,zad,zaa,Tryz.f50])
      all_goals(
       rw[kq.out,←hP2]
       refine⟨?_,?_⟩
       ·simp only[go_sem,zaS,zqh]
       ·simp only[go_sem,zaS,zqh])
   ·have hP2:(match zc9 4 (b.list.drop 0) (b.used.drop 0) 0 with
     |some i=>zcR rec b a i (b.list.getD i za7)
     |none=>zfz rec b a K (zzr.drop 2))=V:=hP
    obtain⟨X,hX⟩:∃X,zc9 4 (b.list.drop 0) (b.used.drop 0) 0=X:=⟨_,rfl⟩
    rw[hX]at hP2
    repeat'(first|refine And.intro ?_ ?_|exact True.intro|refine rq fun _=>?_|refine rf fun _=>?_|simp only[go_sem,zaB,zab,zal,zad,zaa,Tryz.f50])
    refine zat hm hZ3 50000 (lsw [184,256] [270,1000028,1000044,1000063,1000064]) (ι:=zcW b.list.length q0 fun i=>zc9 4 (b.list.drop i) (b.used.drop i) i=X)
     ⟨fun q=>⟨frL [(0,.ptr (7,0) 0),(3,.ptr (50003,1) 0),(4,.ptr (50004,2) 0),(5,.fz (.b false)),(6,.fz (.b false)),(10,.fz (.i .i64 4)),(55,.full [.i .i64 1,.i .i64 4,.i .i64 2]),(56,.fz (.i .i64 3)),(57,.fz (.i .i64 1)),(62,.fz (.sl (b.list.map enc))),(63,.fz (.i .i64 b.list.length)),(64,.fz (.i .i64 q.i))],hpL [((50003,1),some ⟨[.fz (.sl (b.list.map enc)),.fz (.sl (b.used.map enc)),.fz (.sl (b.seen.map enc)),.fz (.i .i64 b.rounds)],true,false⟩),((50004,2),some ⟨[.fz (.i .i64 0),.fz (.i .i64 0),.fz (.i .i64 0),.fz (.s []),.full []],true,false⟩),((7,0),some ⟨[.fz (.i .i64 uses),.fz (.i .i64 a)],true,false⟩)],q.m⟩,fun q=>b.list.length-q.i⟩
     ⟨0,q0,by omega,by omega,hX⟩ (by kernel_rfl) ?_ ?_
    ·refine zaj ?_ ?_ ?_<;>simp only[go_sem]
     all_goals first|done|rfl|omega
    rintro⟨i,q1,hi,hq1,hE⟩
    try simp only at hi hq1 hE
    rcases Nat.lt_or_ge i b.list.length with h1|h1
    rotate_left
    ·rw[zjq h1]at hE
     rw[←hE]at hP2
     simp only at hP2
     obtain rfl:i=b.list.length:=by omega
     repeat'(first|refine And.intro ?_ ?_|exact True.intro|refine rq fun _=>?_|refine rf fun _=>?_|simp only[go_sem,Nat.lt_irrefl,zaB,zab,zal,zad,zaa,Tryz.f50])
     all_goals refine⟨⟨2,q1,by omega,by omega,hP2⟩,by simp only;omega,?_⟩
     all_goals refine zaj ?_ ?_ ?_<;>simp only[go_sem]
     all_goals first|done|rfl|omega
    have hul:=ko.out.ul
    have h2:i<b.used.length:=by omega
    obtain⟨f,hf⟩:∃f,b.list[i]=f:=⟨_,rfl⟩
    obtain⟨u,hu2⟩:∃u,b.used[i]=u:=⟨_,rfl⟩
    have hfb:brF f:=ko.out.br f (by rw[←hf];exact List.getElem_mem h1)
    rw[zhu h1 h2,hf,hu2]at hE
    obtain⟨k,hk⟩:∃k,(zah f).1=k:=⟨_,rfl⟩
    rw[hk]at hE
    cases u with
    |true=>
     rw[if_neg (by simp)]at hE
     repeat'(first|refine And.intro ?_ ?_|exact True.intro|refine rq fun _=>?_|refine rf fun _=>?_|simp only[go_sem,h1,h2,hf,hu2,hk,zaB,zab,zal,zad,zaa,Tryz.f50])
     all_goals refine⟨⟨i+1,q1+1,by omega,by omega,hE⟩,by simp only;omega,?_⟩
     all_goals refine zaj ?_ ?_ ?_<;>simp only[go_sem]
     all_goals first|done|rfl|omega
    |false=>
     by_cases hkw:k=4
     rotate_left
     ·rw[if_neg (by simp[hkw])]at hE
      have hkw':(k=4)=False:=eq_false hkw
      repeat'(first|refine zaA.i hfb fun _=>?_|refine And.intro ?_ ?_|exact True.intro|refine rq fun _=>?_|refine rf fun _=>?_|simp only[go_sem,h1,h2,hf,hu2,hk,hkw',zaB,zab,zal,zad,zaa,Tryz.f50])
      all_goals refine⟨⟨i+1,q1+1,by omega,by omega,hE⟩,by simp only;omega,?_⟩
      all_goals refine zaj ?_ ?_ ?_<;>simp only[go_sem]
      all_goals first|done|rfl|omega
     subst hkw
     rw[if_pos ⟨rfl,rfl⟩]at hE
     rw[←hE]at hP2
     simp only at hP2
     have hfg:b.list.getD i za7=f:=by rw[List.getD_eq_getElem?_getD,List.getElem?_eq_getElem h1,hf];rfl
     rw[hfg]at hP2
     obtain⟨pb1,pb2,pb3,pb4⟩:=zeU hfb
     obtain⟨po,pq,pt,hPt⟩:∃o q t,zah f=(4,o,q,t):=⟨(zah f).2.1,(zah f).2.2.1,(zah f).2.2.2,by rw[←hk]⟩
     rw[hPt]at pb1 pb2 pb3 pb4
     simp only at pb1 pb2 pb3 pb4
     unfold zcR at hP2
     rw[hPt]at hP2
     have hP3:(if(4:Int)=1 then _ else if(4:Int)=4 then(if 300<a+1 then zoL (a+1)else zna i (zf3 (zaH b.list)) (rec (zbT (zcX b i) [zbK pq pt (zf3 (zaH b.list))]) (a+1)))else _)=V:=hP2
     rw[if_neg (by decide),if_pos rfl]at hP3
     have hvi:b.used.isEmpty=false∧i+1≤b.used.length:=⟨by cases hb:b.used with|nil=>rw[hb]at h2;simp at h2|cons=>rfl,by omega⟩
     have hsn:∀s∈b.seen,s.length≤1000000:=fun s hs=>by have:=ko.out.ss s hs;omega
     have hsl:=ko.out.sl
     by_cases hfu:300<a+1
     ·rw[if_pos hfu]at hP3
      have hfT:(300<a+1)=True:=eq_true hfu
      repeat'(first|refine zaA.i hfb fun _=>?_|refine zaA.i hvi fun _=>?_|refine zak.i (zen (cs:=b.used.map enc) (xs:=[FD.sl (b.used.map enc)]) rfl (ziN (l:=b.used) (by omega)) fun g1 n1 hg1 hn1=>?_)|refine zak.i (znA (uses:=uses) (by simp only[go_sem]) ⟨ha0,ha1⟩ (by omega) ?_)|refine And.intro ?_ ?_|exact True.intro|refine rq fun _=>?_|refine rf fun _=>?_|simp only[go_sem,hfT,h1,h2,hf,hu2,hk,hPt,zaB,zab,zal,zad,zaa,Tryz.f50])
      all_goals(
       rw[kq.out,←hP3]
       refine⟨?_,?_⟩
       ·simp only[go_sem,zaS,zoL,zb0]
       ·simp only[go_sem,zaS,zoL,zb0])
     rw[if_neg hfu]at hP3
     have hfT:(300<a+1)=False:=eq_false hfu
     obtain⟨qa,hqa,hab,has⟩:=pb4 (by simp)
     have hip:zhq pq pt ⟨[]⟩:=⟨qa,hqa,hab.ft,by omega⟩
     obtain⟨hf1,hf2,hf3⟩:=zi5 (zaH b.list)
     have hnl:=znZ ko.out.br
     have hnb:(zaH b.list).length≤1000000000:=by
      have hbl:b.list.length≤1000:=by omega
      have hbm:b.list.length*1000000≤1000*1000000:=Nat.mul_le_mul_right _ hbl
      omega
     have hnm:zf3 (zaH b.list)=zcO (zcI (zaH b.list) (zaH b.list).length 0):=rfl
     obtain⟨NS,hNS⟩:∃NS,zaH b.list=NS:=⟨_,rfl⟩
     rw[hNS]at hf1 hf2 hf3 hnb hnm hP3
     obtain⟨KF,hKF⟩:∃KF,zcI NS NS.length 0=KF:=⟨_,rfl⟩
     rw[hKF]at hf1 hf2 hf3 hnm
     rw[hnm]at hP3
     obtain⟨nmAt,hnA⟩:∃nmAt:Nat→List UInt8,nmAt=fun k=>if k=0 then[]else(zcO (k-1)).l:=⟨_,rfl⟩
     have hn0:nmAt 0=[]:=by rw[hnA];rfl
     have hns:∀k,nmAt (k+1)=(zcO k).l:=fun k=>by rw[hnA];simp
     repeat'(first|refine zaA.i hcl fun _=>?_|refine zaA.i hfb fun _=>?_|refine zaA.i hvi fun _=>?_|refine zak.i (zen (cs:=b.used.map enc) (xs:=[FD.sl (b.used.map enc)]) rfl (ziN (l:=b.used) (by omega)) fun g1 n1 hg1 hn1=>?_)|refine zak.i (znA (uses:=uses) (by simp only[go_sem]) ⟨ha0,ha1⟩ (by omega) ?_)|refine And.intro ?_ ?_|exact True.intro|refine rq fun _=>?_|refine rf fun _=>?_|simp only[go_sem,hfT,h1,h2,hf,hu2,hk,hPt,hNS,zaB,zab,zal,zad,zaa,Tryz.f50])
     refine zat hm hZ3 50000 (lsw [184,256] [270,1000028,1000044,1000063,1000064]) (ι:=zcW (KF+1) (g1+1) fun _=>True)
      ⟨fun q=>⟨frL [(0,.ptr (7,0) 0),(3,.ptr (50003,1) 0),(4,.ptr (50004,2) 0),(5,.fz (.b false)),(6,.fz (.b false)),(11,.fz (.i .i64 i)),(15,.ptr (50015,q1+1) 0),(16,.fz (.b pt)),(20,.fz (.s (nmAt q.i))),(21,.fz (.sl (NS.map enc))),(22,.fz (.i .i64 q.i))],
       hpL [((50003,1),some ⟨[.fz (.sl (b.list.map enc)),.arr (95007,g1) 1 0 b.used.length,.fz (.sl (b.seen.map enc)),.fz (.i .i64 b.rounds)],true,false⟩),((95007,g1),some ⟨(b.used.map (D.fz∘enc)).set i (.fz (.b true)),false,b.used.isEmpty⟩),
        ((50015,q1+1),some ⟨[.fz (.i .i64 pq.kind),.fz (.s pq.name.l),.fz (.sl (pq.words.map enc)),.fz (.sl (pq.subs.map enc))],true,false⟩),((50004,2),some ⟨[.fz (.i .i64 0),.fz (.i .i64 0),.fz (.i .i64 0),.fz (.s []),.full []],true,false⟩),((7,0),some ⟨[.fz (.i .i64 uses),.fz (.i .i64 (a+1))],true,false⟩)],q.m⟩,fun q=>KF+1-q.i⟩
      ⟨0,n1,by omega,by omega,trivial⟩ (by kernel_rfl) ?_ ?_
     ·refine zaj ?_ ?_ ?_<;>simp only[go_sem,hn0]
      all_goals first|done|rfl|omega|(refine⟨?_,?_⟩<;>omega)
     rintro⟨k,m2,hk2,hm2,_⟩
     try simp only at hk2 hm2
     have ei0:(zvc 0).l=zbv 0:=zfw 0
     have ei1:(zvc ((k:Int))).l=zbv k:=zfw k
     have hdl0:=zhj 0
     have hdl1:=zhj k
     have hK2:(0:Int)≤k∧(k:Int)≤1000000000000:=by omega
     cases k with
     |zero=>
      repeat'(first|refine zaA.i hK2 fun _=>?_|refine And.intro ?_ ?_|exact True.intro|refine rq fun _=>?_|refine rf fun _=>?_|simp only[go_sem,hn0,ei0,zaB,zab,zal,zad,zaa,Tryz.f50])
      all_goals refine⟨⟨1,m2,by omega,by omega,trivial⟩,by simp only;omega,?_⟩
      all_goals refine zaj ?_ ?_ ?_<;>simp only[go_sem,hns,zcO]
      all_goals first|done|rfl|omega
     |succ k=>
      have hne:((zcO k).l=[])=False:=eq_false (by unfold zcO;simp)
      rcases Nat.lt_or_ge k KF with h3|h3
      ·have hin:(zcO k∈NS)=True:=eq_true (hf3 k h3)
       have hK3:(0:Int)≤(k:Int)+1∧(k:Int)+1≤1000000000000:=by omega
       have ei2:(zvc ((k:Int)+1)).l=zbv (k+1):=zfw (k+1)
       repeat'(first|refine zaA.i hK2 fun _=>?_|refine zaA.i hK3 fun _=>?_|refine And.intro ?_ ?_|exact True.intro|refine rq fun _=>?_|refine rf fun _=>?_|simp only[go_sem,hns,hne,hin,ei2,zaB,zab,zal,zad,zaa,Tryz.f50])
       all_goals refine⟨⟨k+2,m2,by omega,by omega,trivial⟩,by simp only;omega,?_⟩
       all_goals refine zaj ?_ ?_ ?_<;>simp only[go_sem,hns,zcO]
       all_goals first|done|rfl|omega|(exact congrArg (fun x:Int=>D.fz (FD.i .i64 x)) (by omega))
      ·obtain rfl:k=KF:=by omega
       have hin:(zcO k∈NS)=False:=eq_false hf2
       have hns2:=hns k
       have hib:=zhr (t:=pt) (nm:=zcO k) hqa hab has
       have hig:zlG pq pt (zcO k)=zbK pq pt (zcO k):=rfl
       have hip2:zhq pq pt (zcO k):=hip
       obtain⟨I,hI⟩:∃I,zbK pq pt (zcO k)=I:=⟨_,rfl⟩
       rw[hI]at hib hig hP3
       obtain⟨B',hB'⟩:∃B',zbT (zcX b i) [I]=B':=⟨_,rfl⟩
       have hok':zcN uses B' (a+1):=by
        rw[←hB']
        exact(ko.out.mark i).add (fs:=[I]) (fun y hy=>by rw[List.mem_singleton.1 hy];exact hib) rfl (by omega)
       rw[hB']at hP3
       obtain⟨r,hr⟩:∃r,rec B' (a+1)=r:=⟨_,rfl⟩
       rw[hr]at hP3
       have hrun:=ki.out B' (a+1) hok' (by omega)
       rw[hr]at hrun
       obtain⟨c,hc⟩:∃c,zcO k=c:=⟨_,rfl⟩
       rw[hc]at hne hin hig hip2 hP3 hns2
       repeat'(first|refine zaA.i hip2 fun _=>?_|refine zar (id:=28) hm hZ3 50000 (lsw [184,256] [270,1000028,1000044,1000063,1000064]) zwx (by kernel_rfl) (by kernel_rfl) ?_|refine zak.i (zJY (b:=b) (i:=i) (fs:=[I]) h2 ⟨by omega,by omega,by omega,by simp⟩ hsn (by simp only[go_sem]) (.inr (by simp only[List.map_cons,List.map_nil,zaE])) hB' ?_)|refine zak.i (zcE (T:=7) (xs:=[enc B']) (cs:=[.i .i64 uses,.i .i64 (a+1)]) rfl hrun (by simp only[go_sem]) ?_)|refine And.intro ?_ ?_|exact True.intro|refine rq fun _=>?_|refine rf fun _=>?_|simp only[go_sem,zwx,hns2,hne,hin,hig,zaB,zab,zal,zad,zaa,Tryz.f50])
       all_goals(
        rw[kq.out,←hP3]
        refine⟨?_,?_⟩
        ·simp only[go_sem,zaS,zna]
        ·simp only[go_sem,zaS,zna])
   ·have hP2:(match zc9 2 (b.list.drop 0) (b.used.drop 0) 0 with
     |some i=>zcR rec b a i (b.list.getD i za7)
     |none=>zfz rec b a K (zzr.drop 3))=V:=hP
    obtain⟨X,hX⟩:∃X,zc9 2 (b.list.drop 0) (b.used.drop 0) 0=X:=⟨_,rfl⟩
    rw[hX]at hP2
    repeat'(first|refine And.intro ?_ ?_|exact True.intro|refine rq fun _=>?_|refine rf fun _=>?_|simp only[go_sem,zaB,zab,zal,zad,zaa,Tryz.f50])
    refine zat hm hZ3 50000 (lsw [184,256] [270,1000028,1000044,1000063,1000064]) (ι:=zcW b.list.length q0 fun i=>zc9 2 (b.list.drop i) (b.used.drop i) i=X)
     ⟨fun q=>⟨frL [(0,.ptr (7,0) 0),(3,.ptr (50003,1) 0),(4,.ptr (50004,2) 0),(5,.fz (.b false)),(6,.fz (.b false)),(10,.fz (.i .i64 2)),(55,.full [.i .i64 1,.i .i64 4,.i .i64 2]),(56,.fz (.i .i64 3)),(57,.fz (.i .i64 2)),(62,.fz (.sl (b.list.map enc))),(63,.fz (.i .i64 b.list.length)),(64,.fz (.i .i64 q.i))],hpL [((50003,1),some ⟨[.fz (.sl (b.list.map enc)),.fz (.sl (b.used.map enc)),.fz (.sl (b.seen.map enc)),.fz (.i .i64 b.rounds)],true,false⟩),((50004,2),some ⟨[.fz (.i .i64 0),.fz (.i .i64 0),.fz (.i .i64 0),.fz (.s []),.full []],true,false⟩),((7,0),some ⟨[.fz (.i .i64 uses),.fz (.i .i64 a)],true,false⟩)],q.m⟩,fun q=>b.list.length-q.i⟩
     ⟨0,q0,by omega,by omega,hX⟩ (by kernel_rfl) ?_ ?_
    ·refine zaj ?_ ?_ ?_<;>simp only[go_sem]
     all_goals first|done|rfl|omega
    rintro⟨i,q1,hi,hq1,hE⟩
    try simp only at hi hq1 hE
    rcases Nat.lt_or_ge i b.list.length with h1|h1
    rotate_left
    ·rw[zjq h1]at hE
     rw[←hE]at hP2
     simp only at hP2
     obtain rfl:i=b.list.length:=by omega
     repeat'(first|refine And.intro ?_ ?_|exact True.intro|refine rq fun _=>?_|refine rf fun _=>?_|simp only[go_sem,Nat.lt_irrefl,zaB,zab,zal,zad,zaa,Tryz.f50])
     all_goals refine⟨⟨3,q1,by omega,by omega,hP2⟩,by simp only;omega,?_⟩
     all_goals refine zaj ?_ ?_ ?_<;>simp only[go_sem]
     all_goals first|done|rfl|omega
    have hul:=ko.out.ul
    have h2:i<b.used.length:=by omega
    obtain⟨f,hf⟩:∃f,b.list[i]=f:=⟨_,rfl⟩
    obtain⟨u,hu2⟩:∃u,b.used[i]=u:=⟨_,rfl⟩
    have hfb:brF f:=ko.out.br f (by rw[←hf];exact List.getElem_mem h1)
    rw[zhu h1 h2,hf,hu2]at hE
    obtain⟨k,hk⟩:∃k,(zah f).1=k:=⟨_,rfl⟩
    rw[hk]at hE
    cases u with
    |true=>
     rw[if_neg (by simp)]at hE
     repeat'(first|refine And.intro ?_ ?_|exact True.intro|refine rq fun _=>?_|refine rf fun _=>?_|simp only[go_sem,h1,h2,hf,hu2,hk,zaB,zab,zal,zad,zaa,Tryz.f50])
     all_goals refine⟨⟨i+1,q1+1,by omega,by omega,hE⟩,by simp only;omega,?_⟩
     all_goals refine zaj ?_ ?_ ?_<;>simp only[go_sem]
     all_goals first|done|rfl|omega
    |false=>
     by_cases hkw:k=2
     rotate_left
     ·rw[if_neg (by simp[hkw])]at hE
      have hkw':(k=2)=False:=eq_false hkw
      repeat'(first|refine zaA.i hfb fun _=>?_|refine And.intro ?_ ?_|exact True.intro|refine rq fun _=>?_|refine rf fun _=>?_|simp only[go_sem,h1,h2,hf,hu2,hk,hkw',zaB,zab,zal,zad,zaa,Tryz.f50])
      all_goals refine⟨⟨i+1,q1+1,by omega,by omega,hE⟩,by simp only;omega,?_⟩
      all_goals refine zaj ?_ ?_ ?_<;>simp only[go_sem]
      all_goals first|done|rfl|omega
     subst hkw
     rw[if_pos ⟨rfl,rfl⟩]at hE
     rw[←hE]at hP2
     simp only at hP2
     have hfg:b.list.getD i za7=f:=by rw[List.getD_eq_getElem?_getD,List.getElem?_eq_getElem h1,hf];rfl
     rw[hfg]at hP2
     obtain⟨pb1,pb2,pb3,pb4⟩:=zeU hfb
     obtain⟨po,pq,pt,hPt⟩:∃o q t,zah f=(2,o,q,t):=⟨(zah f).2.1,(zah f).2.2.1,(zah f).2.2.2,by rw[←hk]⟩
     rw[hPt]at pb1 pb2 pb3 pb4
     simp only at pb1 pb2 pb3 pb4
     unfold zcR at hP2
     rw[hPt]at hP2
     have hP3:(if(2:Int)=1 then _ else if(2:Int)=4 then _ else ze5 rec (zcX b i) i po [] a)=V:=hP2
     rw[if_neg (by decide),if_neg (by decide)]at hP3
     have hvi:b.used.isEmpty=false∧i+1≤b.used.length:=⟨by cases hb:b.used with|nil=>rw[hb]at h2;simp at h2|cons=>rfl,by omega⟩
     have hsn:∀s∈b.seen,s.length≤1000000:=fun s hs=>by have:=ko.out.ss s hs;omega
     have hsl:=ko.out.sl
     obtain⟨U,hU⟩:∃U,b.used.set i true=U:=⟨_,rfl⟩
     have hUl:U.length=b.used.length:=by rw[←hU,List.length_set]
     have hUe:U.isEmpty=false:=by
      cases hb:U with
      |nil=>rw[hb]at hUl;simp at hUl;omega
      |cons=>rfl
     have hUc:(b.used.map (D.fz∘enc)).set i (.fz (.b true))=zaf (U.map enc):=by
      rw[zbf,←hU,List.map_set];rfl
     have em:zcX b i=⟨b.list,U,b.seen,b.rounds⟩:=by rw[←hU];rfl
     obtain⟨b1,hb1⟩:∃b1,zcX b i=b1:=⟨_,rfl⟩
     rw[hb1]at hP3 em
     have e1:enc b1= .agg [.sl (b.list.map enc),.sl (U.map enc),.sl (b.seen.map enc),.i .i64 b.rounds]:=by rw[em];rfl
     have hb1l:b1.list=b.list:=by rw[em]
     have hb1u:b1.used=U:=by rw[em]
     have hb1s:b1.seen=b.seen:=by rw[em]
     repeat'(first|refine zaA.i hfb fun _=>?_|refine zaA.i hvi fun _=>?_|refine zak.i (zen (cs:=b.used.map enc) (xs:=[FD.sl (b.used.map enc)]) rfl (ziN (l:=b.used) (by omega)) fun g1 n1 hg1 hn1=>?_)|refine And.intro ?_ ?_|exact True.intro|refine rq fun _=>?_|refine rf fun _=>?_|simp only[go_sem,h1,h2,hf,hu2,hk,hPt,zaB,zab,zal,zad,zaa,Tryz.f50])
     refine zat hm hZ3 50000 (lsw [184,256] [270,1000028,1000044,1000063,1000064]) (ι:=zHk po.length (g1+1) fun j subs a'=>ze5 rec b1 i (po.drop j) subs a'=V∧a≤a'∧a'≤300∧subs.length=j)
      ⟨fun q=>⟨frL [(0,.ptr (7,0) 0),(3,.ptr (50003,1) 0),(4,.ptr (50004,2) 0),(5,.fz (.b false)),(6,.fz (.b false)),(11,.fz (.i .i64 i)),(26,.ow (50184,q.g) 5 (q.subs.map enc)),(158,.fz (.sl (po.map enc))),(159,.fz (.i .i64 po.length)),(160,.fz (.i .i64 q.i))],
       hpL [((50003,1),some ⟨[.fz (.sl (b.list.map enc)),.fz (.sl (U.map enc)),.fz (.sl (b.seen.map enc)),.fz (.i .i64 b.rounds)],true,false⟩),((50004,2),some ⟨[.fz (.i .i64 0),.fz (.i .i64 0),.fz (.i .i64 0),.fz (.s []),.full []],true,false⟩),((7,0),some ⟨[.fz (.i .i64 uses),.fz (.i .i64 q.a)],true,false⟩),((50184,q.g),some tok)],q.m⟩,fun q=>po.length-q.i⟩
      ⟨0,[],a,n1,n1+1,by omega,by omega,by omega,⟨hP3,by omega,by omega,rfl⟩⟩ (by kernel_rfl) ?_ ?_
     ·refine zbm [] [(50184,n1)] [((95007,g1),U.map enc)] ?_ ?_ ?_ ?_ ?_<;>simp only[go_sem,hUc,hUl,hvi.1]
      all_goals first|done|rfl|omega|(refine⟨?_,?_⟩<;>omega)
     rintro⟨j,subs,a',g,m',hj,hg,hm',hB0,hB1,hB2,hB3⟩
     try simp only at hj hg hm' hB0 hB1 hB2 hB3
     rcases Nat.lt_or_ge j po.length with h3|h3
     rotate_left
     ·have hB9:=hB0
      rw[List.drop_eq_nil_of_le h3,ze5]at hB9
      obtain rfl:j=po.length:=by omega
      repeat'(first|refine And.intro ?_ ?_|exact True.intro|refine rq fun _=>?_|refine rf fun _=>?_|simp only[go_sem,Nat.lt_irrefl,zaB,zab,zal,zad,zaa,Tryz.f50])
      all_goals(
       rw[kq.out,←hB9]
       refine⟨?_,?_⟩
       ·simp only[go_sem,zaS]
       ·simp only[go_sem,zaS])
     have hB9:=hB0
     rw[zr0 h3]at hB9
     obtain⟨x,hx⟩:∃x,po[j]=x:=⟨_,rfl⟩
     have hxb:brF x:=pb1 x (by rw[←hx];exact List.getElem_mem h3)
     rw[hx]at hB9
     by_cases hfu:300<a'+1
     ·rw[if_pos hfu]at hB9
      have hfT:(300<a'+1)=True:=eq_true hfu
      repeat'(first|refine zak.i (znA (uses:=uses) (by simp only[go_sem]) ⟨(by omega),hB2⟩ (by omega) ?_)|refine And.intro ?_ ?_|exact True.intro|refine rq fun _=>?_|refine rf fun _=>?_|simp only[go_sem,hfT,h3,hx,zaB,zab,zal,zad,zaa,Tryz.f50])
      all_goals(
       rw[kq.out,←hB9]
       refine⟨?_,?_⟩
       ·simp only[go_sem,zaS,zoL,zb0]
       ·simp only[go_sem,zaS,zoL,zb0])
     rw[if_neg hfu]at hB9
     have hfT:(300<a'+1)=False:=eq_false hfu
     obtain⟨B',hB'⟩:∃B',zbT b1 [x]=B':=⟨_,rfl⟩
     have hok':zcN uses B' (a'+1):=by
      rw[←hB',←hb1]
      exact((ko.out.mark i).mono hB1 hB2).add (fs:=[x]) (fun y hy=>by rw[List.mem_singleton.1 hy];exact hxb) rfl (by omega)
     rw[hB']at hB9
     obtain⟨r,hr⟩:∃r,rec B' (a'+1)=r:=⟨_,rfl⟩
     rw[hr]at hB9
     have hrun:=ki.out B' (a'+1) hok' (by omega)
     rw[hr]at hrun
     have had:=kd.out B' (a'+1) (by omega)
     rw[hr]at had
     obtain⟨had1,had2⟩:=had
     repeat'(first|refine zak.i (znA (uses:=uses) (by simp only[go_sem]) ⟨(by omega),hB2⟩ (by omega) ?_)|refine And.intro ?_ ?_|exact True.intro|refine rq fun _=>?_|refine rf fun _=>?_|simp only[go_sem,hfT,h3,hx,zaB,zab,zal,zad,zaa,Tryz.f50])
     refine zak.i (zDf (b:=b1) (fs:=[x]) (by rw[hb1l,hb1u,hb1s,hUl];exact⟨by omega,by omega,by omega,by simp⟩) (by rw[hb1s];exact hsn) (by rw[e1];simp only[List.map_cons,List.map_nil,zaE];rfl) ?_)
     rw[hB']
     repeat'(first|refine And.intro ?_ ?_|exact True.intro|refine rq fun _=>?_|refine rf fun _=>?_|simp only[go_sem,zaB,zab,zal,zad,zaa,Tryz.f50])
     refine zak.i (zcE (T:=7) (xs:=[enc B']) (cs:=[.i .i64 uses,.i .i64 (a'+1)]) rfl hrun (by simp only[go_sem]) ?_)
     cases hrk:r.ok with
     |false=>
      rw[if_pos hrk]at hB9
      repeat'(first|refine And.intro ?_ ?_|exact True.intro|refine rq fun _=>?_|refine rf fun _=>?_|simp only[go_sem,hrk,zaB,zab,zal,zad,zaa,Tryz.f50])
      all_goals(
       rw[kq.out,←hB9]
       refine⟨?_,?_⟩
       ·simp only[go_sem,zaS,zb0]
       ·simp only[go_sem,zaS,zb0])
     |true=>
      rw[if_neg (by rw[hrk];simp)]at hB9
      repeat'(first|refine And.intro ?_ ?_|exact True.intro|refine rq fun _=>?_|refine rf fun _=>?_|simp only[go_sem,hrk,zaB,zab,zal,zad,zaa,Tryz.f50])
      all_goals refine⟨⟨j+1,subs++[r.p],r.added,m'+2,m'+3,by omega,by omega,by omega,⟨hB9,by omega,had2 hrk,by simp[hB3]⟩⟩,by simp only;omega,?_⟩
      all_goals refine zbm [] [] [] ?_ ?_ ?_ ?_ ?_<;>simp only[go_sem,List.map_append,zaS]
      all_goals first|done|rfl|omega
  ·obtain rfl:w=3:=by omega
   have hG:zft rec uses b a=V:=hK.trans hP
   unfold zft at hG
   by_cases hru:b.rounds=uses
   ·rw[if_pos hru]at hG
    have hrT:(b.rounds=uses)=True:=eq_true hru
    repeat'(first|refine zar (id:=44) hm hZ3 50000 (lsw [184,256] [270,1000028,1000044,1000063,1000064]) zmn (by kernel_rfl) (by kernel_rfl) ?_|refine And.intro ?_ ?_|exact True.intro|refine rq fun _=>?_|refine rf fun _=>?_|simp only[go_sem,zmn,hrT,Int.lt_irrefl,zaB,zab,zal,zad,zaa,Tryz.f50])
    all_goals(
     rw[kq.out,←hG]
     refine⟨?_,?_⟩
     ·simp only[go_sem,zaS,zb0]
     ·simp only[go_sem,zaS,zb0])
   rw[if_neg hru]at hG
   have hrT:(b.rounds=uses)=False:=eq_false hru
   have hsn:∀s∈b.seen,s.length≤1000000:=fun s hs=>by have:=ko.out.ss s hs;omega
   have hsl:=ko.out.sl
   have hul:=ko.out.ul
   obtain⟨NS,hNS⟩:∃NS,zaH b.list=NS:=⟨_,rfl⟩
   obtain⟨CS,hCS0⟩:∃CS,zdI b.list=CS:=⟨_,rfl⟩
   rw[hCS0]at hG
   obtain⟨c0,hc0⟩:∃c0:Brn,c0=⟨b.list,b.used,b.seen,b.rounds+1⟩:=⟨_,rfl⟩
   rw[←hc0]at hG
   have hS0:zHh uses a b.list.length ⟨c0,[],a⟩:=by
    refine⟨?_,by rw[hc0];exact Nat.le_refl _,by simp⟩
    rw[hc0]
    exact⟨ko.out.br,ko.out.ll,ko.out.ul,ko.out.sl,ko.out.ss,by simp only;omega,by simp only;omega,ko.out.u,ko.out.a0,ko.out.a1⟩
   have hcs:(((NS.length:Int)=0)=True∧CS=[⟨[99,48]⟩])∨(((NS.length:Int)=0)=False∧CS=NS):=by
    rw[←hCS0]
    unfold zdI
    rw[hNS]
    by_cases h:NS=[]
    ·left;rw[if_pos h,h];exact⟨by simp,rfl⟩
    ·right;rw[if_neg h];exact⟨eq_false fun h2=>h (List.eq_nil_of_length_eq_zero (by omega)),rfl⟩
   have hcb:CS.length≤1000000000:=by
    have hbl:b.list.length≤1000:=by omega
    have hbm:b.list.length*1000000≤1000*1000000:=Nat.mul_le_mul_right _ hbl
    have hnl:=znZ ko.out.br
    rw[hNS]at hnl
    rcases hcs with⟨_,h⟩|⟨_,h⟩
    ·rw[h];simp
    ·rw[h];omega
   rcases hcs with⟨hnT,hCS⟩|⟨hnT,hCS⟩
   all_goals(
    repeat'(first|refine zaA.i hcl fun _=>?_|refine zar (id:=44) hm hZ3 50000 (lsw [184,256] [270,1000028,1000044,1000063,1000064]) zmn (by kernel_rfl) (by kernel_rfl) ?_|refine And.intro ?_ ?_|exact True.intro|refine rq fun _=>?_|refine rf fun _=>?_|simp only[go_sem,zmn,hrT,hNS,hnT,zaB,zab,zal,zad,zaa,Tryz.f50])
    refine zak.i (zDe (ztA CS c0 b.list 0) (b:=b) (B':=b) (fs:=[]) ⟨by omega,by omega,by omega,by simp⟩ hsn zxi rfl fun r g n1 h1 h2 h3 h4=>?_)
    repeat'(first|refine And.intro ?_ ?_|exact True.intro|refine rq fun _=>?_|refine rf fun _=>?_|simp only[go_sem,hNS,hnT,zaB,zab,zal,zad,zaa,Tryz.f50])
    refine zat hm hZ3 50000 (lsw [184,256] [270,1000028,1000044,1000063,1000064]) (ι:=zzw b.list.length (n1+2) fun i s=>zyd rec (zhm CS (b.list.drop i) i s)=V∧zHh uses a b.list.length s)
     ⟨fun q=>⟨frL [(0,.ptr (7,0) 0),(3,.ptr (50003,1) 0),(4,.ptr (50004,2) 0),(5,.fz (.b false)),(6,.fz (.b false)),(32,.fz (.sl (CS.map enc))),(33,.arr (50270,q.z) 5 0 q.s.steps.length),(34,.ptr (50034,n1) 0),(213,.fz (.sl (b.list.map enc))),(214,.fz (.i .i64 b.list.length)),(215,.fz (.i .i64 q.i))],hpL [((50003,1),some ⟨[.fz (.sl (b.list.map enc)),.fz (.sl (b.used.map enc)),.fz (.sl (b.seen.map enc)),.fz (.i .i64 b.rounds)],true,false⟩),((50004,2),some ⟨[.fz (.i .i64 0),.fz (.i .i64 0),.fz (.i .i64 0),.fz (.s []),.full []],true,false⟩),((7,0),some ⟨[.fz (.i .i64 uses),.fz (.i .i64 q.s.added)],true,false⟩),((50034,n1),some ⟨[.fz (.sl (q.s.c.list.map enc)),.fz (.sl (q.s.c.used.map enc)),.arr (51043,q.r) 1 0 q.s.c.seen.length,.fz (.i .i64 q.s.c.rounds)],true,false⟩),((51043,q.r),some ⟨zbl (ztA CS q.s.c (b.list.drop q.i) q.i) q.g q.s.c.seen,false,q.s.c.seen.isEmpty⟩),((99007,q.g),some tok),((50270,q.z),some ⟨zaf (q.s.steps.map enc),false,q.s.steps.isEmpty⟩)],q.m⟩,fun q=>b.list.length-q.i⟩
     ⟨0,⟨c0,[],a⟩,r,g,n1+1,n1+2,by omega,by omega,by omega,by omega,by omega,⟨hG,hS0⟩⟩ (by kernel_rfl) ?_ ?_
    ·refine zbm [] [(50270,n1+1)] [] ?_ ?_ ?_ ?_ ?_<;>simp only[go_sem,hCS,hc0,List.drop_zero]
     all_goals repeat'(first|refine And.intro ?_ ?_|omega|rfl|exact zxH (by omega)|simp only[go_sem])
     all_goals trace_state
    rintro⟨i,⟨c,st,ad⟩,r,g,z,m2,hi,hr,hg,hz,hm2,hq,hS⟩
    try simp only at hi hr hg hz hm2 hq hS
    obtain⟨hS1,hS2,hS3⟩:=hS
    try simp only at hS1 hS2 hS3
    have hsa:=hS1.a0
    have hsb:=hS1.a1
    have hcl2:=hS1.ll
    have hcu:=hS1.ul
    have hcs2:=hS1.sl
    rcases Nat.lt_or_ge i b.list.length with h5|h5
    ·obtain⟨f,hf⟩:∃f,b.list[i]=f:=⟨_,rfl⟩
     have hfb:brF f:=hcl.1 f (by rw[←hf];exact List.getElem_mem h5)
     have hq9:=hq
     rw[zu0 h5,hf]at hq9
     obtain⟨k,hk⟩:∃k,(zah f).1=k:=⟨_,rfl⟩
     by_cases hk3:k=3
     rotate_left
     ·have hk3':(k=3)=False:=eq_false hk3
      rw[hk,if_neg hk3]at hq9
      have hnx:=zBA (CS:=CS) (c:=c) (k:=i) h5 (by rw[hf,hk];exact hk3)
      repeat'(first|refine zaA.i hfb fun _=>?_|refine And.intro ?_ ?_|exact True.intro|refine rq fun _=>?_|refine rf fun _=>?_|simp only[go_sem,h5,hf,hk,hk3',zaB,zab,zal,zad,zaa,Tryz.f50])
      all_goals refine⟨⟨i+1,⟨c,st,ad⟩,r,g,z,m2+1,by omega,by omega,by omega,by omega,by omega,⟨hq9,hS1,hS2,hS3⟩⟩,by simp only;omega,?_⟩
      all_goals refine zaj ?_ ?_ ?_<;>simp only[go_sem,hnx]
      all_goals first|done|rfl|omega
     subst hk3
     rw[if_pos hk]at hq9
     obtain⟨po,pq,pt,hPt⟩:∃o q t,zah f=(3,o,q,t):=⟨(zah f).2.1,(zah f).2.2.1,(zah f).2.2.2,by rw[←hk]⟩
     obtain⟨pb1,pb2,pb3,pb4⟩:=zeU hfb
     rw[hPt]at pb4 hq9
     obtain⟨qa,hqa,hab,has⟩:=pb4 (by simp)
     try simp only at hq9 hqa
     have hnx:=zyE (CS:=CS) (c:=c) (k:=i) h5 (by rw[hf,hPt])
     have hq8:zyd rec ((zii pq pt i (CS.drop 0) ⟨c,st,ad⟩).bind (zhm CS (b.list.drop (i+1)) (i+1)))=V:=hq9
     repeat'(first|refine zaA.i hfb fun _=>?_|refine And.intro ?_ ?_|exact True.intro|refine rq fun _=>?_|refine rf fun _=>?_|simp only[go_sem,h5,hf,hk,hPt,zaB,zab,zal,zad,zaa,Tryz.f50])
     refine zat hm hZ3 50000 (lsw [184,256] [270,1000028,1000044,1000063,1000064]) (ι:=zzw CS.length (m2+2) fun j s=>zyd rec ((zii pq pt i (CS.drop j) s).bind (zhm CS (b.list.drop (i+1)) (i+1)))=V∧zHh uses a b.list.length s)
      ⟨fun q=>⟨frL [(0,.ptr (7,0) 0),(3,.ptr (50003,1) 0),(4,.ptr (50004,2) 0),(5,.fz (.b false)),(6,.fz (.b false)),(32,.fz (.sl (CS.map enc))),(33,.arr (50270,q.z) 5 0 q.s.steps.length),(34,.ptr (50034,n1) 0),(213,.fz (.sl (b.list.map enc))),(214,.fz (.i .i64 b.list.length)),(35,.fz (.i .i64 i)),(39,.ptr (50039,m2+1) 0),(40,.fz (.b pt)),(215,.fz (.i .i64 i)),(230,.fz (.sl (CS.map enc))),(231,.fz (.i .i64 CS.length)),(232,.fz (.i .i64 q.i))],
       hpL [((50003,1),some ⟨[.fz (.sl (b.list.map enc)),.fz (.sl (b.used.map enc)),.fz (.sl (b.seen.map enc)),.fz (.i .i64 b.rounds)],true,false⟩),((50004,2),some ⟨[.fz (.i .i64 0),.fz (.i .i64 0),.fz (.i .i64 0),.fz (.s []),.full []],true,false⟩),((7,0),some ⟨[.fz (.i .i64 uses),.fz (.i .i64 q.s.added)],true,false⟩),((50034,n1),some ⟨[.fz (.sl (q.s.c.list.map enc)),.fz (.sl (q.s.c.used.map enc)),.arr (51043,q.r) 1 0 q.s.c.seen.length,.fz (.i .i64 q.s.c.rounds)],true,false⟩),((51043,q.r),some ⟨zbl (ztB CS q.s.c (CS.drop q.i) i (b.list.drop (i+1))) q.g q.s.c.seen,false,q.s.c.seen.isEmpty⟩),((99007,q.g),some tok),((50270,q.z),some ⟨zaf (q.s.steps.map enc),false,q.s.steps.isEmpty⟩),((50039,m2+1),some ⟨[.fz (.i .i64 pq.kind),.fz (.s pq.name.l),.fz (.sl (pq.words.map enc)),.fz (.sl (pq.subs.map enc))],true,false⟩)],q.m⟩,fun q=>CS.length-q.i⟩
      ⟨0,⟨c,st,ad⟩,r,g,z,m2+2,by omega,by omega,by omega,by omega,by omega,⟨hq8,hS1,hS2,hS3⟩⟩ (by kernel_rfl) ?_ ?_
     ·refine zaj ?_ ?_ ?_<;>simp only[go_sem,hnx,List.drop_zero]
      all_goals first|done|rfl|omega
     rintro⟨j,⟨c,st,ad⟩,r,g,z,m3,hj,hr,hg,hz,hm3,hq,hS⟩
     try simp only at hj hr hg hz hm3 hq hS
     obtain⟨hS1,hS2,hS3⟩:=hS
     try simp only at hS1 hS2 hS3
     have hsa:=hS1.a0
     have hsb:=hS1.a1
     have hcl2:=hS1.ll
     have hcu:=hS1.ul
     have hcs2:=hS1.sl
     rcases Nat.lt_or_ge j CS.length with h6|h6
     ·obtain⟨w,hx⟩:∃w,CS[j]=w:=⟨_,rfl⟩
      have his:i<c.seen.length:=by omega
      obtain⟨Si,hSi⟩:∃Si,c.seen[i]=Si:=⟨_,rfl⟩
      have hgD:c.seen.getD i []=Si:=by rw[List.getD_eq_getElem?_getD,List.getElem?_eq_getElem his,hSi];rfl
      have hq9:=hq
      rw[zu1 h6,hx]at hq9
      simp only[hgD]at hq9
      obtain⟨kk,hkk⟩:∃kk,ztB CS c (CS.drop j) i (b.list.drop (i+1))=kk:=⟨_,rfl⟩
      have hrow:i+1≤(zbl kk g c.seen).length∧c.seen.isEmpty=false:=⟨by rw[zaT];omega,by cases hb:c.seen with|nil=>rw[hb]at his;simp at his|cons=>rfl⟩
      by_cases hin:w∈Si
      ·rw[if_pos hin]at hq9
       have hinT:(w∈Si)=True:=eq_true hin
       have hnx:=zBB (CS:=CS) (c:=c) (ws:=CS) (i:=i) (fs:=b.list.drop (i+1)) h6 (by rw[hx,hgD];exact hin)
       rw[hkk]at hnx
       have hgt:=zey (k:=kk) (g:=g) his
       rw[hSi]at hgt
       by_cases hik:i=kk
       ·rw[if_pos hik]at hgt
        repeat'(first|refine zaA.i hrow fun _=>?_|refine And.intro ?_ ?_|exact True.intro|refine rq fun _=>?_|refine rf fun _=>?_|simp only[go_sem,hkk,hx,hinT,h6,hgt,zaB,zab,zal,zad,zaa,Tryz.f50])
        all_goals refine⟨⟨j+1,⟨c,st,ad⟩,r,g,z,m3,by omega,by omega,by omega,by omega,by omega,⟨hq9,hS1,hS2,hS3⟩⟩,by simp only;omega,?_⟩
        all_goals refine zaj ?_ ?_ ?_<;>simp only[go_sem,←hnx]
        all_goals first|done|rfl|omega
       ·rw[if_neg hik]at hgt
        repeat'(first|refine zaA.i hrow fun _=>?_|refine And.intro ?_ ?_|exact True.intro|refine rq fun _=>?_|refine rf fun _=>?_|simp only[go_sem,hkk,hx,hinT,h6,hgt,zaB,zab,zal,zad,zaa,Tryz.f50])
        all_goals refine⟨⟨j+1,⟨c,st,ad⟩,r,g,z,m3,by omega,by omega,by omega,by omega,by omega,⟨hq9,hS1,hS2,hS3⟩⟩,by simp only;omega,?_⟩
        all_goals refine zaj ?_ ?_ ?_<;>simp only[go_sem,←hnx]
        all_goals first|done|rfl|omega
      ·rw[if_neg hin]at hq9
       have hinT:(w∈Si)=False:=eq_false hin
       have hnx:=zyG (CS:=CS) (c:=c) (ws:=CS) (i:=i) (fs:=b.list.drop (i+1)) h6 (by rw[hx,hgD];exact hin)
       have hki:kk=i:=hkk.symm.trans hnx
       have hgt:=zey (k:=kk) (g:=g) his
       rw[hSi,if_pos hki.symm]at hgt
       by_cases hfu:300<ad+1
       ·rw[if_pos hfu]at hq9
        have hfT:(300<ad+1)=True:=eq_true hfu
        have hq7:zoL (ad+1)=V:=hq9
        repeat'(first|refine zaA.i hrow fun _=>?_|refine zak.i (znA (uses:=uses) (by simp only[go_sem]) ⟨hsa,hsb⟩ (by omega) ?_)|refine And.intro ?_ ?_|exact True.intro|refine rq fun _=>?_|refine rf fun _=>?_|simp only[go_sem,hfT,hkk,hx,hinT,h6,hgt,zaB,zab,zal,zad,zaa,Tryz.f50])
        all_goals(
         rw[kq.out,←hq7]
         refine⟨?_,?_⟩
         ·simp only[go_sem,zaS,zoL,zb0]
         ·simp only[go_sem,zaS,zoL,zb0])
       rw[if_neg hfu]at hq9
       have hfT:(300<ad+1)=False:=eq_false hfu
       have hib:=zhr (t:=pt) (nm:=w) hqa hab has
       have hig:zlG pq pt w=zbK pq pt w:=rfl
       have hip:zhq pq pt w:=⟨qa,hqa,hab.ft,by omega⟩
       obtain⟨I,hI⟩:∃I,zbK pq pt w=I:=⟨_,rfl⟩
       rw[hI]at hib hig hq9
       obtain⟨S1,hSS⟩:∃S1,c.seen.set i (Si++[w])=S1:=⟨_,rfl⟩
       have hc1:saw c i w=⟨c.list,c.used,S1,c.rounds⟩:=by unfold saw;rw[hgD,hSS]
       have hok':zcN uses (zbT ⟨c.list,c.used,S1,c.rounds⟩ [I]) (ad+1):=by rw[←hc1];exact hS1.saw his hib (by omega)
       have hc1n:S1.length=c.seen.length:=by rw[←hSS,List.length_set]
       rw[hc1]at hq9
       have hsw:∀id:Abs.Id,D.toFDs ((zbl kk g c.seen).set i (.ow id 1 (Si.map enc++[.s w.l])))=some (S1.map enc):=fun id=>by
        rw[←hSS]
        have:=zy0 (k:=kk) (g:=g) (i:=i) (es:=1) (id:=id) (S:=c.seen) (x:=Si++[w]) his
        rw[List.map_append]at this
        exact this
       have hsn1:∀s∈S1,s.length≤1000000:=fun s hs=>by
        rw[←hSS]at hs
        rcases List.mem_or_eq_of_mem_set hs with h|h
        ·have:=hS1.ss s h;omega
        ·have:=hS1.ss Si (by rw[←hSi];exact List.getElem_mem his)
         rw[h,List.length_append,List.length_singleton];omega
       have hSl:Si.length≤1000:=by
        have:=hS1.ss Si (by rw[←hSi];exact List.getElem_mem his)
        omega
       obtain⟨B',hB'⟩:∃B',zbT ⟨c.list,c.used,S1,c.rounds⟩ [I]=B':=⟨_,rfl⟩
       have hBl:B'.list.length=c.list.length+1:=by rw[←hB'];unfold zbT;simp
       have hrow2:c.seen.isEmpty=false∧i+1≤(zbl kk g c.seen).length:=⟨hrow.2,hrow.1⟩
       have hst:st.length*5≤(zaf (st.map enc)).length∧fits (st.length+1) 64:=⟨by rw[zeN];exact Nat.le_refl _,zcw (by omega) (by decide)⟩
       have hstk:(zaf (st.map enc)).take (st.length*5)=zaf (st.map enc):=List.take_of_length_le (by rw[zeN];exact Nat.le_refl _)
       have hse:c.seen.isEmpty=true→S1=[]:=fun h=>by rw[hrow.2]at h;cases h
       have hlen1:c.list.length≤100000∧c.used.length≤100000∧S1.length≤100000∧[I].length≤100000:=⟨by omega,by omega,by omega,by simp⟩
       rw[hB']at hq9 hok'
       repeat'(first|refine zak.i (zHt (ztB CS B' (CS.drop (j+1)) i (b.list.drop (i+1))) (b:=⟨c.list,c.used,S1,c.rounds⟩) (B':=B') (fs:=[I]) hlen1 hsn1 hB' (by simp only[go_sem]) hse (hsw (50256,m3)) hc1n.symm (by simp only[List.map_cons,List.map_nil,zaE]) fun r4 g4 n4 h11 h12 h13 h14=>?_)|refine zaA.i hrow fun _=>?_|refine zaA.i hrow2 fun _=>?_|refine zaA.i hst fun _=>?_|refine zaA.i hip fun _=>?_|refine zar (id:=63) hm hZ3 50000 (lsw [184,256] [270,1000028,1000044,1000063,1000064]) zwy (by kernel_rfl) (by kernel_rfl) ?_|refine zar (id:=64) hm hZ3 50000 (lsw [184,256] [270,1000028,1000044,1000063,1000064]) zwz (by kernel_rfl) (by kernel_rfl) ?_|refine zak.i (znA (uses:=uses) (by simp only[go_sem]) ⟨hsa,hsb⟩ (by omega) ?_)|refine And.intro ?_ ?_|exact True.intro|refine rq fun _=>?_|refine rf fun _=>?_|simp only[go_sem,hstk,zwy,zwz,hfT,hig,hkk,hx,hinT,h6,hgt,zaB,zab,zal,zad,zaa,Tryz.f50])
       all_goals refine⟨⟨j+1,⟨B',st++[.mk 4 i 0 w []],ad+1⟩,r4,g4,n4,n4+1,by omega,by omega,by omega,by omega,by omega,⟨hq9,hok',by simp only;omega,by simp only[List.length_append,List.length_singleton];omega⟩⟩,by simp only;omega,?_⟩
       all_goals refine zaj ?_ ?_ ?_<;>simp only[go_sem,List.map_append,zlH,zDK,Bool.and_false]
       all_goals first|done|rfl|omega
     ·have hq9:=hq
      rw[List.drop_eq_nil_of_le h6,zii]at hq9
      have hq8:zyd rec (zhm CS (b.list.drop (i+1)) (i+1) ⟨c,st,ad⟩)=V:=hq9
      have hnx:=zyF (CS:=CS) (c:=c) (ws:=CS) (i:=i) (fs:=b.list.drop (i+1)) h6
      obtain rfl:j=CS.length:=by omega
      repeat'(first|refine And.intro ?_ ?_|exact True.intro|refine rq fun _=>?_|refine rf fun _=>?_|simp only[go_sem,Nat.lt_irrefl,zaB,zab,zal,zad,zaa,Tryz.f50])
      all_goals refine⟨⟨i+1,⟨c,st,ad⟩,r,g,z,m3,by omega,by omega,by omega,by omega,by omega,⟨hq8,hS1,hS2,hS3⟩⟩,by simp only;omega,?_⟩
      all_goals refine zaj ?_ ?_ ?_<;>simp only[go_sem,hnx]
      all_goals first|done|rfl|omega
    ·have hq9:=hq
     rw[List.drop_eq_nil_of_le h5,zhm]at hq9
     have hq8:(if st=[]then(⟨zb0,false,false,ad⟩:Res)else⟨zid st (rec c ad).p,(rec c ad).ok,(rec c ad).lim,(rec c ad).added⟩)=V:=hq9
     obtain rfl:i=b.list.length:=by omega
     by_cases hst0:st=[]
     ·rw[if_pos hst0]at hq8
      have hstT:((st.length:Int)=0)=True:=eq_true (by rw[hst0];rfl)
      repeat'(first|refine And.intro ?_ ?_|exact True.intro|refine rq fun _=>?_|refine rf fun _=>?_|simp only[go_sem,hstT,Nat.lt_irrefl,zaB,zab,zal,zad,zaa,Tryz.f50])
      all_goals(
       rw[kq.out,←hq8]
       refine⟨?_,?_⟩
       ·simp only[go_sem,zaS,zb0]
       ·simp only[go_sem,zaS,zb0])
     rw[if_neg hst0]at hq8
     have hsp:1≤st.length:=by
      cases hb:st with
      |nil=>exact absurd hb hst0
      |cons=>simp
     have hstT:((st.length:Int)=0)=False:=eq_false (by omega)
     obtain⟨rr,hr9⟩:∃rr,rec c ad=rr:=⟨_,rfl⟩
     have hrun:=ki.out c ad hS1 (by omega)
     rw[hr9]at hrun hq8
     have hve:c.seen.isEmpty=true→c.seen=[]:=fun h=>List.isEmpty_iff.1 h
     repeat'(first|refine zak.i (zJq (c:=c) (k:=ztA CS c (b.list.drop b.list.length) b.list.length) (g:=g) (v:=c.seen.isEmpty) hrun (by simp only[go_sem]) hve (by simp only[go_sem]) ?_)|refine And.intro ?_ ?_|exact True.intro|refine rq fun _=>?_|refine rf fun _=>?_|simp only[go_sem,hstT,Nat.lt_irrefl,zaB,zab,zal,zad,zaa,Tryz.f50])
     refine zat hm hZ3 50000 (lsw [184,256] [270,1000028,1000044,1000063,1000064]) (ι:=zC5 st.length (m2+1) fun k tl p=>tl.length=st.length-k∧p=zid (st.drop k) rr.p)
      ⟨fun q=>⟨frL [(0,.ptr (7,0) 0),(3,.ptr (50003,1) 0),(4,.ptr (50004,2) 0),(5,.fz (.b false)),(6,.fz (.b false)),(33,.arr (50270,z) 5 0 st.length),(43,.ptr (50043,m2) 0),(44,.fz (.b rr.ok)),(45,.fz (.b rr.lim)),(46,.fz (.i .i64 ((q.i:Int)-1)))],
       hpL [((50004,2),some ⟨[.fz (.i .i64 0),.fz (.i .i64 0),.fz (.i .i64 0),.fz (.s []),.full []],true,false⟩),((7,0),some ⟨[.fz (.i .i64 uses),.fz (.i .i64 rr.added)],true,false⟩),((50043,m2),some ⟨[.fz (.i .i64 q.p.kind),.fz (.i .i64 q.p.form),.fz (.i .i64 q.p.other),.fz (.s q.p.name.l),.fz (.sl (q.p.subs.map enc))],true,false⟩),
        ((50270,z),some ⟨zaf ((st.take q.i++q.tl).map enc),false,st.isEmpty⟩)],q.m⟩,fun q=>q.i⟩
      ⟨st.length,[],rr.p,m2+1,by omega,by omega,⟨by simp,by rw[List.drop_length];rfl⟩⟩ (by kernel_rfl) ?_ ?_
     ·refine zaj ?_ ?_ ?_<;>simp only[go_sem,List.take_length,List.append_nil]
      all_goals first|done|rfl|omega
     rintro⟨k,tl,p,m4,hk,hm4,htl,hp⟩
     try simp only at hk hm4 htl hp
     cases k with
     |zero=>
      have hz0:((0:Int)≤0-1)=False:=eq_false (by omega)
      have hp0:zid st rr.p=p:=by rw[hp];rfl
      have hq7:=hq8
      rw[hp0]at hq7
      repeat'(first|refine And.intro ?_ ?_|exact True.intro|refine rq fun _=>?_|refine rf fun _=>?_|simp only[go_sem,hz0,zaB,zab,zal,zad,zaa,Tryz.f50])
      all_goals(
       rw[kq.out,←hq7]
       refine⟨?_,?_⟩
       ·simp only[go_sem,zaS]
       ·simp only[go_sem,zaS])
     |succ k=>
      have hs1:(k:Int)+1-1=k:=by omega
      have hs2:((0:Int)≤k)=True:=eq_true (by omega)
      have hk5:k<st.length:=by omega
      obtain⟨x,hx⟩:∃x,st[k]=x:=⟨_,rfl⟩
      obtain⟨FA,hFA⟩:∃FA,zaf ((st.take k).map enc)=FA:=⟨_,rfl⟩
      obtain⟨FT,hFT⟩:∃FT,zaf (tl.map enc)=FT:=⟨_,rfl⟩
      have hFl:FA.length=k*5:=by rw[←hFA,zeN,List.length_take];congr 1;omega
      have hspl:zaf (List.map enc (st.take (k+1))++List.map enc tl)=FA++(.fz (.i .i64 x.kind):: .fz (.i .i64 x.form):: .fz (.i .i64 x.other):: .fz (.s x.name.l):: .fz (.sl (x.subs.map enc))::FT):=by
       rw[List.take_succ_eq_append_getElem hk5,hx,List.map_append,List.append_assoc,zgI,hFA,zgI,hFT]
       rw[List.map_cons,List.map_nil,zaS]
       rfl
      have hrw:st.isEmpty=false∧k*5+4+1≤FA.length+(FT.length+1+1+1+1+1):=⟨by cases hb:st with|nil=>exact absurd hb hst0|cons=>rfl,by omega⟩
      have hrw2:k*5+5≤FA.length+(FT.length+1+1+1+1+1)∧st.isEmpty=false:=⟨by omega,hrw.1⟩
      have hset:∀y:D,(FA++(D.fz (.i .i64 x.kind)::D.fz (.i .i64 x.form)::D.fz (.i .i64 x.other)::D.fz (.s x.name.l)::D.fz (.sl (x.subs.map enc))::FT)).set (k*5+4) y=FA++(D.fz (.i .i64 x.kind)::D.fz (.i .i64 x.form)::D.fz (.i .i64 x.other)::D.fz (.s x.name.l)::y::FT):=fun y=>by
       rw[List.set_append_right _ _ (by omega),hFl,Nat.add_sub_cancel_left];rfl
      have hdr:∀y:D,(FA++(D.fz (.i .i64 x.kind)::D.fz (.i .i64 x.form)::D.fz (.i .i64 x.other)::D.fz (.s x.name.l)::y::FT)).drop (k*5)=D.fz (.i .i64 x.kind)::D.fz (.i .i64 x.form)::D.fz (.i .i64 x.other)::D.fz (.s x.name.l)::y::FT:=fun y=>by rw[←hFl,List.drop_left]
      repeat'(first|refine zaA.i hrw fun _=>?_|refine zaA.i hrw2 fun _=>?_|refine And.intro ?_ ?_|exact True.intro|refine rq fun _=>?_|refine rf fun _=>?_|simp only[go_sem,hset,hdr,hspl,hs1,hs2,zaB,zab,zal,zad,zaa,Tryz.f50])
      have hspl2:zaf (List.map enc (st.take k)++FD.agg [.i .i64 x.kind,.i .i64 x.form,.i .i64 x.other,.s x.name.l,.sl [FD.agg [.i .i64 p.kind,.i .i64 p.form,.i .i64 p.other,.s p.name.l,.sl (p.subs.map enc)]]]::List.map enc tl)=FA++(D.fz (.i .i64 x.kind)::D.fz (.i .i64 x.form)::D.fz (.i .i64 x.other)::D.fz (.s x.name.l)::D.fz (.sl [FD.agg [.i .i64 p.kind,.i .i64 p.form,.i .i64 p.other,.s p.name.l,.sl (p.subs.map enc)]])::FT):=by
       rw[←hFA,←hFT,zgI];rfl
      have hwp:Prf.mk x.kind x.form x.other x.name [p]=zid (st.drop k) rr.p:=by
       rw[List.drop_eq_getElem_cons hk5,hx,hp];rfl
      all_goals refine⟨⟨k,.mk x.kind x.form x.other x.name [p]::tl,.mk x.kind x.form x.other x.name [p],m4,by omega,by omega,⟨by simp only[List.length_cons];omega,hwp⟩⟩,by simp only;omega,?_⟩
      all_goals refine zbm [] [] [] ?_ ?_ ?_ ?_ ?_<;>simp only[go_sem,List.map_append,zaS,hspl2]
      all_goals repeat'(first|refine And.intro ?_ ?_|omega|rfl|simp only[go_sem,←hFA,←hFT])
      all_goals trace_state)
end Go.Proofs.YtkkffhphodngkabGreatDoor
