import Derived.Test.YtkkffhphodngkaaGreatDoorAT
import Derived.Test.YtkkffhphodngkaaGreatDoorY19
import Derived.Test.YtkkffhphodngkaaGreatDoorY13
set_option maxRecDepth 100000
set_option maxHeartbeats 1000000
set_option linter.unusedSimpArgs false
namespace Go.Proofs.YtkkffhphodngkaaGreatDoor
open Go Go.Abs Go.Proofs
def zvB:Tv:=(.q 0 (.q 1 (.q 2 (.q 3 (.q 4 (.q 5 (.q 6 (.br [(7,(.br [(8,(.q 9 (.q 10 (.q 11 (.q 12 (.br [(13,(.br [(14,(.q 15 (.q 16 .leaf)))]))])))))),(13,(.br [(8,(.q 9 (.q 10 (.q 11 (.q 12 (.br [(14,(.q 15 (.q 16 .leaf)))]))))))]))])),(13,(.br [(7,(.br [(8,(.q 9 (.q 10 (.q 11 (.q 12 (.br [(14,(.q 15 (.q 16 .leaf)))]))))))]))]))]))))))))
def zlK:Tv:=(.q 0 (.q 1 (.q 2 (.q 3 (.q 4 (.q 5 (.q 6 .leaf)))))))
def zvC:Tv:=(.q 0 (.q 2 (.q 3 (.q 4 (.q 5 (.q 6 (.q 7 (.q 8 (.q 9 (.br [(1,(.br [(10,(.q 11 (.br [(12,.leaf)])))])),(10,(.q 1 (.q 11 (.br [(12,.leaf)]))))]))))))))))
def zvD:Tv:=(.q 0 (.q 1 (.q 2 (.q 3 (.q 4 (.q 5 (.br [(6,(.br [(7,.leaf)]))])))))))
theorem zw6 {l:List Abs.zab}(h:∀f∈l,brF f):(l.flatMap zaP).length≤l.length*1000000:=by
 induction l with
 |nil=>simp
 |cons x l ih=>
  rw[List.flatMap_cons,List.length_append,List.length_cons,Nat.succ_mul]
  have h1:=zqX (h x (by simp))
  have h2:=ih fun f hf=>h f (by simp[hf])
  omega
theorem znj {l:List Abs.zab}(h:∀f∈l,brF f):(zaL l).length≤l.length*1000000:=by
 rw[ziI]
 have h1:=zw6 h
 have h2:(zdr (zc9 (l.flatMap zaP))).length≤(zc9 (l.flatMap zaP)).length:=by
  unfold zdr
  rw[List.length_map]
  have:=zc3 ((zc9 (l.flatMap zaP)).map (·.l))
  rw[List.length_map]at this
  exact this
 rw[zda]at h2
 omega
theorem zqN:∀xs:List FD,D.toFDs (xs.map .fz)=some xs
 |[]=>rfl
 |x::xs=>by rw[List.map_cons,D.toFDs,zqN xs];rfl
theorem zIq {b:Brn}{i:Nat}{fs:List Abs.zab}{x2:D}{H:zas}{n g1:Nat}{R:D→zas→Nat→Prop}{B':Brn}(hi:i<b.used.length)(hb:b.list.length≤100000∧b.used.length≤100000∧b.seen.length≤100000∧fs.length≤100000)(hs:∀s∈b.seen,s.length≤1000000)
  (ho:H (26007,g1)=some ⟨(b.used.map (D.fz∘enc)).set i (.fz (.b true)),false,b.used.isEmpty⟩)(h2:x2= .fz (.sl (fs.map enc))∨x2= .full (fs.map enc))(hB:zbX (zcL b i) fs=B')
  (hR:R (.fz (enc B')) (zaE H (26007,g1) none) n):zau Tryz.prog GA 14 [.agg [.fz (.sl (b.list.map enc)),.arr (26007,g1) 1 0 b.used.length,.fz (.sl (b.seen.map enc)),.fz (.i .i64 b.rounds)],x2] H n R:=by
 subst hB
 obtain⟨U,hU⟩:∃U,b.used.set i true=U:=⟨_,rfl⟩
 have hUl:U.length=b.used.length:=by rw[←hU,List.length_set]
 have hc:(b.used.map (D.fz∘enc)).set i (.fz (.b true))=(U.map enc).map .fz:=by
  rw[←hU,List.map_map,List.map_set];rfl
 rw[hc]at ho
 have hne:b.used.isEmpty=false:=by
  cases hb:b.used with
  |nil=>rw[hb]at hi;simp at hi
  |cons=>rfl
 have hb2:(zcL b i).list.length≤100000∧(zcL b i).used.length≤100000∧(zcL b i).seen.length≤100000∧fs.length≤100000:=⟨hb.1,by unfold zcL;simp only[List.length_set];exact hb.2.1,hb.2.2.1,hb.2.2.2⟩
 have em:enc (zcL b i)= .agg [.sl (b.list.map enc),.sl (U.map enc),.sl (b.seen.map enc),.i .i64 b.rounds]:=by rw[←hU];rfl
 refine zh0 (26007,g1) (U.map enc) ho (fun h=>by simp only[hne]at h;cases h) (zqN _) (fun x hx=>by obtain⟨y,_,rfl⟩:=List.mem_map.1 hx;rfl) (args':=[.agg [.fz (.sl (b.list.map enc)),.fz (.sl (U.map enc)),.fz (.sl (b.seen.map enc)),.fz (.i .i64 b.rounds)],x2]) ?_ ?_
 ·rcases h2 with rfl|rfl<;>simp only[zsK,fzD,List.length_map,hUl,and_self,if_true]
 ·refine zCd (b:=zcL b i) (fs:=fs) hb2 hs ?_ hR
  rw[em]
  rcases h2 with rfl|rfl<;>rfl
theorem zCc (k:Nat){b B':Brn}{fs:List Abs.zab}{args:List D}{H:zas}{n:Nat}{R:D→zas→Nat→Prop}(hb:b.list.length≤100000∧b.used.length≤100000∧b.seen.length≤100000∧fs.length≤100000)(hs:∀s∈b.seen,s.length≤1000000)
  (hB:zbX b fs=B')(ha:D.toFDs args=some [enc b,.sl (fs.map enc)])
  (hR:∀r g n',n≤r→r<n'→n≤g→g<n'→R (.agg [.fz (.sl (B'.list.map enc)),.fz (.sl (B'.used.map enc)),.arr (14043,r) 1 0 B'.seen.length,.fz (.i .i64 B'.rounds)]) (hpX [((14043,r),some ⟨zbi k g B'.seen,false,B'.seen.isEmpty⟩),((33007,g),some tok)] H) n'):zau Tryz.prog GA 14 args H n R:=by
 subst hB
 refine zKE k hb hs ha fun r g n' h1 h2 h3 h4=>?_
 have h:=hR r g n' h1 h2 h3 h4
 have e:(zbX b fs).seen.length=b.seen.length+fs.length:=by unfold zbX;simp
 rw[e]at h
 exact h
theorem zlG:∀{ds:List D} {xs:List FD},ds.length=xs.length→(∀j,j<xs.length→(ds.getD j .junk).toFD=some (xs.getD j .nilf))→D.toFDs ds=some xs
 |[],[],_,_=>rfl
 |[],_::_,h,_=>by simp at h
 |_::_,[],h,_=>by simp at h
 |d::ds,x::xs,h,hj=>by
  have h0:=hj 0 (by simp)
  have ih:=zlG (ds:=ds) (xs:=xs) (by simpa using h) (fun j h2=>by have:=hj (j+1) (by simpa using h2);simpa using this)
  simp only[List.getD_cons_zero]at h0
  rw[D.toFDs,h0,ih]
theorem znJ {k g j:Nat}{S:List (List Str)}(h:j<S.length):((zbi k g S).getD j .junk).toFD=some (.sl (S[j].map enc)):=by
 rw[zej h]
 split<;>rfl
theorem zsr {k g:Nat}{S:List (List Str)}:D.toFDs (zbi k g S)=some (S.map enc):=by
 refine zlG (by rw[zaS,List.length_map]) fun j hj=>?_
 rw[List.length_map]at hj
 rw[znJ hj,List.getD_eq_getElem?_getD,List.getElem?_eq_getElem (by simpa using hj),Option.getD_some,List.getElem_map]
 rfl
theorem zx0 {k g i es:Nat}{id:Abs.Id}{S:List (List Str)}{x:List Str}(hi:i<S.length):D.toFDs ((zbi k g S).set i (.ow id es (x.map enc)))=some ((S.set i x).map enc):=by
 refine zlG (by rw[List.length_set,zaS,List.length_map,List.length_set]) fun j hj=>?_
 rw[List.length_map,List.length_set]at hj
 rw[List.getD_eq_getElem?_getD (l:=(S.set i x).map enc),List.getElem?_eq_getElem (by simpa using hj),Option.getD_some,List.getElem_map]
 by_cases e:i=j
 ·subst e
  rw[List.getD_eq_getElem?_getD,List.getElem?_set_self (by rw[zaS];exact hi),Option.getD_some,List.getElem_set_self]
  rfl
 ·rw[List.getD_eq_getElem?_getD,List.getElem?_set_ne e,←List.getD_eq_getElem?_getD,znJ hj,List.getElem_set_ne e]
  rfl
theorem zF1 (k:Nat){b B':Brn}{fs:List Abs.zab}{cells:List D}{v:Bool}{H:zas}{n r0 len:Nat}{x2:D}{R:D→zas→Nat→Prop}(hb:b.list.length≤100000∧b.used.length≤100000∧b.seen.length≤100000∧fs.length≤100000)(hs:∀s∈b.seen,s.length≤1000000)
  (hB:zbX b fs=B')(ho:H (14043,r0)=some ⟨cells,false,v⟩)(hv:v=true→b.seen=[])(hc:D.toFDs cells=some (b.seen.map enc))(hl:len=b.seen.length)(h2:x2= .full (fs.map enc))
  (hR:∀r g n',n≤r→r<n'→n≤g→g<n'→R (.agg [.fz (.sl (B'.list.map enc)),.fz (.sl (B'.used.map enc)),.arr (14043,r) 1 0 B'.seen.length,.fz (.i .i64 B'.rounds)]) (hpX [((14043,r),some ⟨zbi k g B'.seen,false,B'.seen.isEmpty⟩),((33007,g),some tok)] (zaE H (14043,r0) none)) n'):
  zau Tryz.prog GA 14 [.agg [.fz (.sl (b.list.map enc)),.fz (.sl (b.used.map enc)),.arr (14043,r0) 1 0 len,.fz (.i .i64 b.rounds)],x2] H n R:=by
 subst hl h2
 refine zh0 (14043,r0) (b.seen.map enc) ho (fun h=>by rw[hv h];rfl) hc (fun x hx=>by obtain⟨y,_,rfl⟩:=List.mem_map.1 hx;rfl) (args':=[.agg [.fz (.sl (b.list.map enc)),.fz (.sl (b.used.map enc)),.fz (.sl (b.seen.map enc)),.fz (.i .i64 b.rounds)],.full (fs.map enc)]) ?_ ?_
 ·simp only[zsK,fzD,List.length_map,and_self,if_true]
 ·exact zCc k hb hs hB rfl hR
def zsN (CS:List Str)(c:Brn):List Abs.zab→Nat→Nat
 |[],_=>c.seen.length
 |f::fs,i=>if(zaf f).1=3∧(∃w∈CS,w∉c.seen.getD i [])then i else zsN CS c fs (i+1)
def zsO (CS:List Str)(c:Brn)(ws:List Str)(i:Nat)(fs:List Abs.zab):Nat:=if∃w∈ws,w∉c.seen.getD i []then i else zsN CS c fs (i+1)
theorem znl {CS:List Str}{c:Brn}{l:List Abs.zab}{i k:Nat}(h:i<l.length):zsN CS c (l.drop i) k=if(zaf l[i]).1=3∧(∃w∈CS,w∉c.seen.getD k [])then k else zsN CS c (l.drop (i+1)) (k+1):=by
 rw[List.drop_eq_getElem_cons h,zsN]
theorem zAy {CS:List Str}{c:Brn}{ws:List Str}{i j:Nat}{fs:List Abs.zab}(h:j<ws.length)(hin:ws[j]∈c.seen.getD i []):zsO CS c (ws.drop j) i fs=zsO CS c (ws.drop (j+1)) i fs:=by
 unfold zsO
 rw[List.drop_eq_getElem_cons h]
 have e:(∃w∈ws[j]::ws.drop (j+1),w∉c.seen.getD i [])↔(∃w∈ws.drop (j+1),w∉c.seen.getD i []):=by
  constructor
  ·rintro⟨w,hw,hn⟩
   rcases List.mem_cons.1 hw with rfl|hw
   ·exact absurd hin hn
   ·exact⟨w,hw,hn⟩
  ·rintro⟨w,hw,hn⟩
   exact⟨w,List.mem_cons_of_mem _ hw,hn⟩
 simp only[e]
theorem zxE {CS:List Str}{c:Brn}{ws:List Str}{i j:Nat}{fs:List Abs.zab}(h:j<ws.length)(hin:ws[j]∉c.seen.getD i []):zsO CS c (ws.drop j) i fs=i:=by
 unfold zsO
 rw[List.drop_eq_getElem_cons h,if_pos ⟨_,List.mem_cons_self,hin⟩]
theorem zxD {CS:List Str}{c:Brn}{ws:List Str}{i j:Nat}{fs:List Abs.zab}(h:ws.length≤j):zsO CS c (ws.drop j) i fs=zsN CS c fs (i+1):=by
 unfold zsO
 rw[List.drop_eq_nil_of_le h,if_neg (by rintro⟨w,hw,_⟩;simp at hw)]
theorem zxC {CS:List Str}{c:Brn}{l:List Abs.zab}{i k:Nat}(h:i<l.length)(hk:(zaf l[i]).1=3):zsN CS c (l.drop i) k=zsO CS c CS k (l.drop (i+1)):=by
 rw[znl h]
 unfold zsO
 by_cases e:∃w∈CS,w∉c.seen.getD k []
 ·rw[if_pos ⟨hk,e⟩,if_pos e]
 ·rw[if_neg (fun h=>e h.2),if_neg e]
theorem zAx {CS:List Str}{c:Brn}{l:List Abs.zab}{i k:Nat}(h:i<l.length)(hk:¬(zaf l[i]).1=3):zsN CS c (l.drop i) k=zsN CS c (l.drop (i+1)) (k+1):=by
 rw[znl h,if_neg (fun h=>hk h.1)]
theorem zwg {b:Brn}:zbX b []=b:=by
 unfold zbX
 simp only[List.append_nil,List.length_nil,List.replicate_zero]
def zFQ (uses a:Int)(n:Nat)(s:GS):Prop:=zcC uses s.c s.added∧n≤s.c.list.length∧(s.steps.length:Int)+a≤s.added
structure zyq (n n0:Nat)(p:Nat→GS→Prop) where
 i:Nat
 s:GS
 r:Nat
 g:Nat
 z:Nat
 m:Nat
 hi:i≤n
 hr:r<m
 hg:g<m
 hz:z<m
 hm:n0≤m
 hp:p i s
theorem zgh {xs ys:List FD}:zad (xs++ys)=zad xs++zad ys:=by simp[zad]
theorem zCI {xs:List FD}{a:FD}{l:List FD}:(zad (xs++[FD.agg (a::l)])).isEmpty=false:=by
 rw[zgh]
 have:zad [FD.agg (a::l)]=D.fz a::l.map .fz:=by simp[zad,FD.cells]
 rw[this]
 cases zad xs<;>rfl
theorem zwC {n n':Nat}{pre:Abs.Id→Abs.Id}{vn:Abs.Id→Bool}{z:Abs.Id→Option (List FD)}{H:zas}{k g:Nat}{S:List (List Str)}(hg:g<n'):Drs n n' pre vn z H (zbi k g S) (zbi k g S):=by
 have h:=ztR (n:=n) (pre:=pre) (vn:=vn) (z:=z) (H:=H) (k:=k) (m:=0) (S:=S) hg
 simpa using h
theorem zHQ {c:Brn}{uses ad:Int}{r:Res}{H:zas}{n r0 k g:Nat}{v:Bool}{R:D→zas→Nat→Prop}
  (hrun:zau Tryz.prog GA 13 [.ptr (7,0) 0,.fz (enc c)] (hpL [((7,0),some ⟨[.fz (.i .i64 uses),.fz (.i .i64 ad)],true,false⟩)]) 1
   (fun d H' _=>D.val d=some (.tup [.fz (enc r.p),.fz (.b r.ok),.fz (.b r.lim)])∧H' (7,0)=some ⟨[FD.i .i64 uses,.i .i64 r.added].map .fz,true,false⟩))
  (ho:H (14043,r0)=some ⟨zbi k g c.seen,false,v⟩)(hv:v=true→c.seen=[])(hs:H (7,0)=some ⟨[.fz (.i .i64 uses),.fz (.i .i64 ad)],true,false⟩)
  (hR:R (.tup [.fz (enc r.p),.fz (.b r.ok),.fz (.b r.lim)]) (zaE (zaE H (14043,r0) none) (7,0) (some ⟨[FD.i .i64 uses,.i .i64 r.added].map .fz,true,false⟩)) n):
  zau Tryz.prog GA 13 [.ptr (7,0) 0,.agg [.fz (.sl (c.list.map enc)),.fz (.sl (c.used.map enc)),.arr (14043,r0) 1 0 c.seen.length,.fz (.i .i64 c.rounds)]] H n R:=by
 refine zh0 (14043,r0) (c.seen.map enc) ho (fun h=>by rw[hv h];rfl) zsr (fun x hx=>by obtain⟨y,_,rfl⟩:=List.mem_map.1 hx;rfl) (args':=[.ptr (7,0) 0,.agg [.fz (.sl (c.list.map enc)),.fz (.sl (c.used.map enc)),.fz (.sl (c.seen.map enc)),.fz (.i .i64 c.rounds)]]) ?_ ?_
 ·simp only[zsK,fzD,List.length_map,and_self,if_true]
 ·refine zcq (T:=7) (xs:=[enc c]) (cs:=[.i .i64 uses,.i .i64 ad]) (cs':=[.i .i64 uses,.i .i64 r.added]) rfl hrun ?_ hR
  unfold zaE
  rw[if_neg (by simp)]
  exact hs
structure zB2 (n n0:Nat)(P:Nat→List Prf→Prf→Prop) where
 i:Nat
 tl:List Prf
 p:Prf
 m:Nat
 hi:i≤n
 hm:n0≤m
 hp:P i tl p
structure zFT (n n0:Nat)(p:Nat→List Prf→Int→Prop) where
 i:Nat
 subs:List Prf
 a:Int
 g:Nat
 m:Nat
 hi:i≤n
 hg:g<m
 hm:n0≤m
 hp:p i subs a
def zyl:List Int:=[1,4,2]
def zHR (uses:Int)(rec:Brn→Int→Res)(m:Nat):Prop:=∀(b:Brn) (a:Int),zcC uses b a→301-a≤m→zau Tryz.prog GA 13 [.ptr (7,0) 0,.fz (enc b)] (hpL [((7,0),some ⟨[.fz (.i .i64 uses),.fz (.i .i64 a)],true,false⟩)]) 1
  (fun d H' _=>D.val d=some (.tup [.fz (enc (rec b a).p),.fz (.b (rec b a).ok),.fz (.b (rec b a).lim)])∧H' (7,0)=some ⟨[FD.i .i64 uses,.i .i64 (rec b a).added].map .fz,true,false⟩)
set_option maxHeartbeats 16000000 in
theorem zAJ {uses:Int}{m:Nat}{rec:Brn→Int→Res}(hih:zHR uses rec m)(hadd:∀b a,a≤300→zkp a (rec b a)):zHR uses (znS rec uses) (m+1):=by
 intro b a hok hm1
 obtain⟨V,hV⟩:∃V,znS rec uses b a=V:=⟨_,rfl⟩
 rw[hV]
 obtain⟨Q,hQ⟩:∃Q:D→zas→Nat→Prop,Q=(fun d H' _=>D.val d=some (.tup [.fz (enc V.p),.fz (.b V.ok),.fz (.b V.lim)])∧H' (7,0)=some ⟨[FD.i .i64 uses,.i .i64 V.added].map .fz,true,false⟩):=⟨_,rfl⟩
 rw[←hQ]
 have kq:=Kp.mk hQ
 clear hQ
 unfold znS at hV
 have hll:=hok.ll
 have ha0:=hok.a0
 have ha1:=hok.a1
 have hr0:=hok.r0
 have hr1:=hok.r1
 have hu:=hok.u
 have hcl:(∀f∈b.list,brF f)∧b.list.length≤100000:=⟨hok.br,by omega⟩
 have ko:=Kp.mk hok
 have ki:=Kp.mk hih
 have kd:=Kp.mk hadd
 clear hok hih hadd
 refine zag (N:=304) hm hZ3 13000 (lsw [184,256] [270,1000028,1000044,1000063,1000064]) zLA Tryz.func13 rfl rfl (by simp) (by kernel_rfl) ?_
 cases hM:zcF b.list with
 |some p=>
  rw[hM]at hV
  simp only at hV
  subst hV
  have hR:=zhq hM
  clear hM
  repeat'(first|refine zaJ.i hcl fun _=>?_|refine And.intro ?_ ?_|exact True.intro|refine rq fun _=>?_|refine rf fun _=>?_|simp only[go_sem,hR,zax,zac,zaz,zae,zaa,Tryz.f13])
  all_goals(
   rw[kq.out]
   refine⟨?_,?_⟩
   ·simp only[go_sem,zaR]
   ·simp only[go_sem,zaR])
 |none=>
  rw[hM]at hV
  simp only at hV
  have hR:=zhp hM
  obtain⟨K,hK⟩:∃K,zgk rec uses b a=K:=⟨_,rfl⟩
  rw[hK]at hV
  repeat'(first|refine zaJ.i hcl fun _=>?_|refine And.intro ?_ ?_|exact True.intro|refine rq fun _=>?_|refine rf fun _=>?_|simp only[go_sem,hR,zbU,zax,zac,zaz,zae,zaa,Tryz.f13])
  refine zaq hm hZ3 13000 (lsw [184,256] [270,1000028,1000044,1000063,1000064]) (ι:=zd7 3 4 fun w=>zgv rec b a K (zyl.drop w)=V)
   ⟨fun q=>⟨frL [(0,.ptr (7,0) 0),(3,.ptr (13003,1) 0),(4,.ptr (13004,2) 0),(5,.fz (.b false)),(6,.fz (.b false)),(55,.full [.i .i64 1,.i .i64 4,.i .i64 2]),(56,.fz (.i .i64 3)),(57,.fz (.i .i64 q.i))],hpL [((13003,1),some ⟨[.fz (.sl (b.list.map enc)),.fz (.sl (b.used.map enc)),.fz (.sl (b.seen.map enc)),.fz (.i .i64 b.rounds)],true,false⟩),((13004,2),some ⟨[.fz (.i .i64 0),.fz (.i .i64 0),.fz (.i .i64 0),.fz (.s []),.full []],true,false⟩),((7,0),some ⟨[.fz (.i .i64 uses),.fz (.i .i64 a)],true,false⟩)],q.m⟩,fun q=>3-q.i⟩
   ⟨0,4,by omega,by omega,hV⟩ (by kernel_rfl) ?_ ?_
  ·refine zaj ?_ ?_ ?_<;>simp only[go_sem]
   all_goals first|done|rfl|omega
  rintro⟨w,q0,hw,hq0,hP⟩
  try simp only at hw hq0 hP
  clear hR hM
  rcases Nat.lt_or_ge w 3 with hw3|hw3
  ·have hcase:w=0∨w=1∨w=2:=by omega
   rcases hcase with rfl|rfl|rfl
   ·have hP2:(match zcf 1 (b.list.drop 0) (b.used.drop 0) 0 with
     |some i=>zc6 rec b a i (b.list.getD i za2)
     |none=>zgv rec b a K (zyl.drop 1))=V:=hP
    obtain⟨X,hX⟩:∃X,zcf 1 (b.list.drop 0) (b.used.drop 0) 0=X:=⟨_,rfl⟩
    rw[hX]at hP2
    repeat'(first|refine And.intro ?_ ?_|exact True.intro|refine rq fun _=>?_|refine rf fun _=>?_|simp only[go_sem,zax,zac,zaz,zae,zaa,Tryz.f13])
    refine zaq hm hZ3 13000 (lsw [184,256] [270,1000028,1000044,1000063,1000064]) (ι:=zd7 b.list.length q0 fun i=>zcf 1 (b.list.drop i) (b.used.drop i) i=X)
     ⟨fun q=>⟨frL [(0,.ptr (7,0) 0),(3,.ptr (13003,1) 0),(4,.ptr (13004,2) 0),(5,.fz (.b false)),(6,.fz (.b false)),(10,.fz (.i .i64 1)),(55,.full [.i .i64 1,.i .i64 4,.i .i64 2]),(56,.fz (.i .i64 3)),(57,.fz (.i .i64 0)),(62,.fz (.sl (b.list.map enc))),(63,.fz (.i .i64 b.list.length)),(64,.fz (.i .i64 q.i))],hpL [((13003,1),some ⟨[.fz (.sl (b.list.map enc)),.fz (.sl (b.used.map enc)),.fz (.sl (b.seen.map enc)),.fz (.i .i64 b.rounds)],true,false⟩),((13004,2),some ⟨[.fz (.i .i64 0),.fz (.i .i64 0),.fz (.i .i64 0),.fz (.s []),.full []],true,false⟩),((7,0),some ⟨[.fz (.i .i64 uses),.fz (.i .i64 a)],true,false⟩)],q.m⟩,fun q=>b.list.length-q.i⟩
     ⟨0,q0,by omega,by omega,hX⟩ (by kernel_rfl) ?_ ?_
    ·refine zaj ?_ ?_ ?_<;>simp only[go_sem]
     all_goals first|done|rfl|omega
    rintro⟨i,q1,hi,hq1,hE⟩
    try simp only at hi hq1 hE
    rcases Nat.lt_or_ge i b.list.length with h1|h1
    rotate_left
    ·rw[ziS h1]at hE
     rw[←hE]at hP2
     simp only at hP2
     obtain rfl:i=b.list.length:=by omega
     repeat'(first|refine And.intro ?_ ?_|exact True.intro|refine rq fun _=>?_|refine rf fun _=>?_|simp only[go_sem,Nat.lt_irrefl,zax,zac,zaz,zae,zaa,Tryz.f13])
     all_goals refine⟨⟨1,q1,by omega,by omega,hP2⟩,by simp only;omega,?_⟩
     all_goals refine zaj ?_ ?_ ?_<;>simp only[go_sem]
     all_goals first|done|rfl|omega
    have hul:=ko.out.ul
    have h2:i<b.used.length:=by omega
    obtain⟨f,hf⟩:∃f,b.list[i]=f:=⟨_,rfl⟩
    obtain⟨u,hu2⟩:∃u,b.used[i]=u:=⟨_,rfl⟩
    have hfb:brF f:=ko.out.br f (by rw[←hf];exact List.getElem_mem h1)
    rw[zgX h1 h2,hf,hu2]at hE
    obtain⟨k,hk⟩:∃k,(zaf f).1=k:=⟨_,rfl⟩
    rw[hk]at hE
    cases u with
    |true=>
     rw[if_neg (by simp)]at hE
     repeat'(first|refine And.intro ?_ ?_|exact True.intro|refine rq fun _=>?_|refine rf fun _=>?_|simp only[go_sem,h1,h2,hf,hu2,hk,zax,zac,zaz,zae,zaa,Tryz.f13])
     all_goals refine⟨⟨i+1,q1+1,by omega,by omega,hE⟩,by simp only;omega,?_⟩
     all_goals refine zaj ?_ ?_ ?_<;>simp only[go_sem]
     all_goals first|done|rfl|omega
    |false=>
     by_cases hkw:k=1
     rotate_left
     ·rw[if_neg (by simp[hkw])]at hE
      have hkw':(k=1)=False:=eq_false hkw
      repeat'(first|refine zaJ.i hfb fun _=>?_|refine And.intro ?_ ?_|exact True.intro|refine rq fun _=>?_|refine rf fun _=>?_|simp only[go_sem,h1,h2,hf,hu2,hk,hkw',zax,zac,zaz,zae,zaa,Tryz.f13])
      all_goals refine⟨⟨i+1,q1+1,by omega,by omega,hE⟩,by simp only;omega,?_⟩
      all_goals refine zaj ?_ ?_ ?_<;>simp only[go_sem]
      all_goals first|done|rfl|omega
     subst hkw
     rw[if_pos ⟨rfl,rfl⟩]at hE
     rw[←hE]at hP2
     simp only at hP2
     have hfg:b.list.getD i za2=f:=by rw[List.getD_eq_getElem?_getD,List.getElem?_eq_getElem h1,hf];rfl
     rw[hfg]at hP2
     obtain⟨pb1,pb2,pb3,pb4⟩:=zfz hfb
     obtain⟨po,pq,pt,hPt⟩:∃o q t,zaf f=(1,o,q,t):=⟨(zaf f).2.1,(zaf f).2.2.1,(zaf f).2.2.2,by rw[←hk]⟩
     rw[hPt]at pb1 pb2 pb3 pb4
     simp only at pb1 pb2 pb3 pb4
     unfold zc6 at hP2
     rw[hPt]at hP2
     rw[if_pos rfl]at hP2
     have hpo1:1≤po.length:=by have:=zl6 (f:=f) (by rw[hPt]);rw[hPt]at this;exact this
     have hvi:b.used.isEmpty=false∧i+1≤b.used.length:=⟨by cases hb:b.used with|nil=>rw[hb]at h2;simp at h2|cons=>rfl,by omega⟩
     by_cases hfu:300<a+po.length
     ·rw[if_pos hfu]at hP2
      have hfT:(300<a+(po.length:Int))=True:=eq_true hfu
      repeat'(first|refine zaJ.i hfb fun _=>?_|refine zaJ.i hvi fun _=>?_|refine zav.i (zd8 (cs:=b.used.map enc) (xs:=[FD.sl (b.used.map enc)]) rfl (zij (l:=b.used) (by omega)) fun g1 n1 hg1 hn1=>?_)|refine zav.i (zmZ (uses:=uses) (by simp only[go_sem]) ⟨ha0,ha1⟩ (by omega) ?_)|refine And.intro ?_ ?_|exact True.intro|refine rq fun _=>?_|refine rf fun _=>?_|simp only[go_sem,hfT,h1,h2,hf,hu2,hk,hPt,zax,zac,zaz,zae,zaa,Tryz.f13])
      all_goals(
       rw[kq.out,←hP2]
       refine⟨?_,?_⟩
       ·simp only[go_sem,zaR,zoa,zbU]
       ·simp only[go_sem,zaR,zoa,zbU])
     ·rw[if_neg hfu]at hP2
      have hfT:(300<a+(po.length:Int))=False:=eq_false hfu
      repeat'(first|refine zaJ.i hfb fun _=>?_|refine zaJ.i hvi fun _=>?_|refine zav.i (zd8 (cs:=b.used.map enc) (xs:=[FD.sl (b.used.map enc)]) rfl (zij (l:=b.used) (by omega)) fun g1 n1 hg1 hn1=>?_)|refine zav.i (zmZ (uses:=uses) (by simp only[go_sem]) ⟨ha0,ha1⟩ (by omega) ?_)|refine And.intro ?_ ?_|exact True.intro|refine rq fun _=>?_|refine rf fun _=>?_|simp only[go_sem,hfT,h1,h2,hf,hu2,hk,hPt,zax,zac,zaz,zae,zaa,Tryz.f13])
      obtain⟨B',hB'⟩:∃B',zbX (zcL b i) po=B':=⟨_,rfl⟩
      have hok':zcC uses B' (a+po.length):=by rw[←hB'];exact(ko.out.mark i).add pb1 rfl (by omega)
      rw[hB']at hP2
      obtain⟨r,hr⟩:∃r,rec B' (a+po.length)=r:=⟨_,rfl⟩
      rw[hr]at hP2
      have hrun:=ki.out B' (a+po.length) hok' (by omega)
      rw[hr]at hrun
      have hsn:∀s∈b.seen,s.length≤1000000:=fun s hs=>by have:=ko.out.ss s hs;omega
      have hsl:=ko.out.sl
      refine zav.i (zIq (b:=b) (i:=i) (fs:=po) h2 ⟨by omega,by omega,by omega,by omega⟩ hsn (by simp only[go_sem]) (.inl rfl) hB' ?_)
      repeat'(first|refine And.intro ?_ ?_|exact True.intro|refine rq fun _=>?_|refine rf fun _=>?_|simp only[go_sem,zax,zac,zaz,zae,zaa,Tryz.f13])
      refine zav.i (zcq (T:=7) (xs:=[enc B']) (cs:=[.i .i64 uses,.i .i64 (a+po.length)]) rfl hrun (by simp only[go_sem]) ?_)
      repeat'(first|refine And.intro ?_ ?_|exact True.intro|refine rq fun _=>?_|refine rf fun _=>?_|simp only[go_sem,zax,zac,zaz,zae,zaa,Tryz.f13])
      all_goals(
       rw[kq.out,←hP2]
       refine⟨?_,?_⟩
       ·simp only[go_sem,zaR,zs7]
       ·simp only[go_sem,zaR,zs7])
   ·have hP2:(match zcf 4 (b.list.drop 0) (b.used.drop 0) 0 with
     |some i=>zc6 rec b a i (b.list.getD i za2)
     |none=>zgv rec b a K (zyl.drop 2))=V:=hP
    obtain⟨X,hX⟩:∃X,zcf 4 (b.list.drop 0) (b.used.drop 0) 0=X:=⟨_,rfl⟩
    rw[hX]at hP2
    repeat'(first|refine And.intro ?_ ?_|exact True.intro|refine rq fun _=>?_|refine rf fun _=>?_|simp only[go_sem,zax,zac,zaz,zae,zaa,Tryz.f13])
    refine zaq hm hZ3 13000 (lsw [184,256] [270,1000028,1000044,1000063,1000064]) (ι:=zd7 b.list.length q0 fun i=>zcf 4 (b.list.drop i) (b.used.drop i) i=X)
     ⟨fun q=>⟨frL [(0,.ptr (7,0) 0),(3,.ptr (13003,1) 0),(4,.ptr (13004,2) 0),(5,.fz (.b false)),(6,.fz (.b false)),(10,.fz (.i .i64 4)),(55,.full [.i .i64 1,.i .i64 4,.i .i64 2]),(56,.fz (.i .i64 3)),(57,.fz (.i .i64 1)),(62,.fz (.sl (b.list.map enc))),(63,.fz (.i .i64 b.list.length)),(64,.fz (.i .i64 q.i))],hpL [((13003,1),some ⟨[.fz (.sl (b.list.map enc)),.fz (.sl (b.used.map enc)),.fz (.sl (b.seen.map enc)),.fz (.i .i64 b.rounds)],true,false⟩),((13004,2),some ⟨[.fz (.i .i64 0),.fz (.i .i64 0),.fz (.i .i64 0),.fz (.s []),.full []],true,false⟩),((7,0),some ⟨[.fz (.i .i64 uses),.fz (.i .i64 a)],true,false⟩)],q.m⟩,fun q=>b.list.length-q.i⟩
     ⟨0,q0,by omega,by omega,hX⟩ (by kernel_rfl) ?_ ?_
    ·refine zaj ?_ ?_ ?_<;>simp only[go_sem]
     all_goals first|done|rfl|omega
    rintro⟨i,q1,hi,hq1,hE⟩
    try simp only at hi hq1 hE
    rcases Nat.lt_or_ge i b.list.length with h1|h1
    rotate_left
    ·rw[ziS h1]at hE
     rw[←hE]at hP2
     simp only at hP2
     obtain rfl:i=b.list.length:=by omega
     repeat'(first|refine And.intro ?_ ?_|exact True.intro|refine rq fun _=>?_|refine rf fun _=>?_|simp only[go_sem,Nat.lt_irrefl,zax,zac,zaz,zae,zaa,Tryz.f13])
     all_goals refine⟨⟨2,q1,by omega,by omega,hP2⟩,by simp only;omega,?_⟩
     all_goals refine zaj ?_ ?_ ?_<;>simp only[go_sem]
     all_goals first|done|rfl|omega
    have hul:=ko.out.ul
    have h2:i<b.used.length:=by omega
    obtain⟨f,hf⟩:∃f,b.list[i]=f:=⟨_,rfl⟩
    obtain⟨u,hu2⟩:∃u,b.used[i]=u:=⟨_,rfl⟩
    have hfb:brF f:=ko.out.br f (by rw[←hf];exact List.getElem_mem h1)
    rw[zgX h1 h2,hf,hu2]at hE
    obtain⟨k,hk⟩:∃k,(zaf f).1=k:=⟨_,rfl⟩
    rw[hk]at hE
    cases u with
    |true=>
     rw[if_neg (by simp)]at hE
     repeat'(first|refine And.intro ?_ ?_|exact True.intro|refine rq fun _=>?_|refine rf fun _=>?_|simp only[go_sem,h1,h2,hf,hu2,hk,zax,zac,zaz,zae,zaa,Tryz.f13])
     all_goals refine⟨⟨i+1,q1+1,by omega,by omega,hE⟩,by simp only;omega,?_⟩
     all_goals refine zaj ?_ ?_ ?_<;>simp only[go_sem]
     all_goals first|done|rfl|omega
    |false=>
     by_cases hkw:k=4
     rotate_left
     ·rw[if_neg (by simp[hkw])]at hE
      have hkw':(k=4)=False:=eq_false hkw
      repeat'(first|refine zaJ.i hfb fun _=>?_|refine And.intro ?_ ?_|exact True.intro|refine rq fun _=>?_|refine rf fun _=>?_|simp only[go_sem,h1,h2,hf,hu2,hk,hkw',zax,zac,zaz,zae,zaa,Tryz.f13])
      all_goals refine⟨⟨i+1,q1+1,by omega,by omega,hE⟩,by simp only;omega,?_⟩
      all_goals refine zaj ?_ ?_ ?_<;>simp only[go_sem]
      all_goals first|done|rfl|omega
     subst hkw
     rw[if_pos ⟨rfl,rfl⟩]at hE
     rw[←hE]at hP2
     simp only at hP2
     have hfg:b.list.getD i za2=f:=by rw[List.getD_eq_getElem?_getD,List.getElem?_eq_getElem h1,hf];rfl
     rw[hfg]at hP2
     obtain⟨pb1,pb2,pb3,pb4⟩:=zfz hfb
     obtain⟨po,pq,pt,hPt⟩:∃o q t,zaf f=(4,o,q,t):=⟨(zaf f).2.1,(zaf f).2.2.1,(zaf f).2.2.2,by rw[←hk]⟩
     rw[hPt]at pb1 pb2 pb3 pb4
     simp only at pb1 pb2 pb3 pb4
     unfold zc6 at hP2
     rw[hPt]at hP2
     have hP3:(if(4:Int)=1 then _ else if(4:Int)=4 then(if 300<a+1 then zoa (a+1)else zp0 i (zfK (zaL b.list)) (rec (zbX (zcL b i) [zb6 pq pt (zfK (zaL b.list))]) (a+1)))else _)=V:=hP2
     rw[if_neg (by decide),if_pos rfl]at hP3
     have hvi:b.used.isEmpty=false∧i+1≤b.used.length:=⟨by cases hb:b.used with|nil=>rw[hb]at h2;simp at h2|cons=>rfl,by omega⟩
     have hsn:∀s∈b.seen,s.length≤1000000:=fun s hs=>by have:=ko.out.ss s hs;omega
     have hsl:=ko.out.sl
     by_cases hfu:300<a+1
     ·rw[if_pos hfu]at hP3
      have hfT:(300<a+1)=True:=eq_true hfu
      repeat'(first|refine zaJ.i hfb fun _=>?_|refine zaJ.i hvi fun _=>?_|refine zav.i (zd8 (cs:=b.used.map enc) (xs:=[FD.sl (b.used.map enc)]) rfl (zij (l:=b.used) (by omega)) fun g1 n1 hg1 hn1=>?_)|refine zav.i (zmZ (uses:=uses) (by simp only[go_sem]) ⟨ha0,ha1⟩ (by omega) ?_)|refine And.intro ?_ ?_|exact True.intro|refine rq fun _=>?_|refine rf fun _=>?_|simp only[go_sem,hfT,h1,h2,hf,hu2,hk,hPt,zax,zac,zaz,zae,zaa,Tryz.f13])
      all_goals(
       rw[kq.out,←hP3]
       refine⟨?_,?_⟩
       ·simp only[go_sem,zaR,zoa,zbU]
       ·simp only[go_sem,zaR,zoa,zbU])
     rw[if_neg hfu]at hP3
     have hfT:(300<a+1)=False:=eq_false hfu
     obtain⟨qa,hqa,hab,has⟩:=pb4 (by simp)
     have hip:zk7 pq pt ⟨[]⟩:=⟨qa,hqa,hab.ft,by omega⟩
     obtain⟨hf1,hf2,hf3⟩:=ziy (zaL b.list)
     have hnl:=znj ko.out.br
     have hnb:(zaL b.list).length≤1000000000:=by
      have hbl:b.list.length≤1000:=by omega
      have hbm:b.list.length*1000000≤1000*1000000:=Nat.mul_le_mul_right _ hbl
      omega
     have hnm:zfK (zaL b.list)=zcz (zcu (zaL b.list) (zaL b.list).length 0):=rfl
     obtain⟨NS,hNS⟩:∃NS,zaL b.list=NS:=⟨_,rfl⟩
     rw[hNS]at hf1 hf2 hf3 hnb hnm hP3
     obtain⟨KF,hKF⟩:∃KF,zcu NS NS.length 0=KF:=⟨_,rfl⟩
     rw[hKF]at hf1 hf2 hf3 hnm
     rw[hnm]at hP3
     obtain⟨nmAt,hnA⟩:∃nmAt:Nat→List UInt8,nmAt=fun k=>if k=0 then[]else(zcz (k-1)).l:=⟨_,rfl⟩
     have hn0:nmAt 0=[]:=by rw[hnA];rfl
     have hns:∀k,nmAt (k+1)=(zcz k).l:=fun k=>by rw[hnA];simp
     repeat'(first|refine zaJ.i hcl fun _=>?_|refine zaJ.i hfb fun _=>?_|refine zaJ.i hvi fun _=>?_|refine zav.i (zd8 (cs:=b.used.map enc) (xs:=[FD.sl (b.used.map enc)]) rfl (zij (l:=b.used) (by omega)) fun g1 n1 hg1 hn1=>?_)|refine zav.i (zmZ (uses:=uses) (by simp only[go_sem]) ⟨ha0,ha1⟩ (by omega) ?_)|refine And.intro ?_ ?_|exact True.intro|refine rq fun _=>?_|refine rf fun _=>?_|simp only[go_sem,hfT,h1,h2,hf,hu2,hk,hPt,hNS,zax,zac,zaz,zae,zaa,Tryz.f13])
     refine zaq hm hZ3 13000 (lsw [184,256] [270,1000028,1000044,1000063,1000064]) (ι:=zd7 (KF+1) (g1+1) fun _=>True)
      ⟨fun q=>⟨frL [(0,.ptr (7,0) 0),(3,.ptr (13003,1) 0),(4,.ptr (13004,2) 0),(5,.fz (.b false)),(6,.fz (.b false)),(11,.fz (.i .i64 i)),(15,.ptr (13015,q1+1) 0),(16,.fz (.b pt)),(20,.fz (.s (nmAt q.i))),(21,.fz (.sl (NS.map enc))),(22,.fz (.i .i64 q.i))],
       hpL [((13003,1),some ⟨[.fz (.sl (b.list.map enc)),.arr (26007,g1) 1 0 b.used.length,.fz (.sl (b.seen.map enc)),.fz (.i .i64 b.rounds)],true,false⟩),((26007,g1),some ⟨(b.used.map (D.fz∘enc)).set i (.fz (.b true)),false,b.used.isEmpty⟩),
        ((13015,q1+1),some ⟨[.fz (.i .i64 pq.kind),.fz (.s pq.name.l),.fz (.sl (pq.words.map enc)),.fz (.sl (pq.subs.map enc))],true,false⟩),((13004,2),some ⟨[.fz (.i .i64 0),.fz (.i .i64 0),.fz (.i .i64 0),.fz (.s []),.full []],true,false⟩),((7,0),some ⟨[.fz (.i .i64 uses),.fz (.i .i64 (a+1))],true,false⟩)],q.m⟩,fun q=>KF+1-q.i⟩
      ⟨0,n1,by omega,by omega,trivial⟩ (by kernel_rfl) ?_ ?_
     ·refine zaj ?_ ?_ ?_<;>simp only[go_sem,hn0]
      all_goals first|done|rfl|omega|(refine⟨?_,?_⟩<;>omega)
     rintro⟨k,m2,hk2,hm2,_⟩
     try simp only at hk2 hm2
     have ei0:(zuk 0).l=zbr 0:=zfe 0
     have ei1:(zuk ((k:Int))).l=zbr k:=zfe k
     have hdl0:=zgN 0
     have hdl1:=zgN k
     have hK2:(0:Int)≤k∧(k:Int)≤1000000000000:=by omega
     cases k with
     |zero=>
      repeat'(first|refine zaJ.i hK2 fun _=>?_|refine And.intro ?_ ?_|exact True.intro|refine rq fun _=>?_|refine rf fun _=>?_|simp only[go_sem,hn0,ei0,zax,zac,zaz,zae,zaa,Tryz.f13])
      all_goals refine⟨⟨1,m2,by omega,by omega,trivial⟩,by simp only;omega,?_⟩
      all_goals refine zaj ?_ ?_ ?_<;>simp only[go_sem,hns,zcz]
      all_goals first|done|rfl|omega
     |succ k=>
      have hne:((zcz k).l=[])=False:=eq_false (by unfold zcz;simp)
      rcases Nat.lt_or_ge k KF with h3|h3
      ·have hin:(zcz k∈NS)=True:=eq_true (hf3 k h3)
       have hK3:(0:Int)≤(k:Int)+1∧(k:Int)+1≤1000000000000:=by omega
       have ei2:(zuk ((k:Int)+1)).l=zbr (k+1):=zfe (k+1)
       repeat'(first|refine zaJ.i hK2 fun _=>?_|refine zaJ.i hK3 fun _=>?_|refine And.intro ?_ ?_|exact True.intro|refine rq fun _=>?_|refine rf fun _=>?_|simp only[go_sem,hns,hne,hin,ei2,zax,zac,zaz,zae,zaa,Tryz.f13])
       all_goals refine⟨⟨k+2,m2,by omega,by omega,trivial⟩,by simp only;omega,?_⟩
       all_goals refine zaj ?_ ?_ ?_<;>simp only[go_sem,hns,zcz]
       all_goals first|done|rfl|omega|(exact congrArg (fun x:Int=>D.fz (FD.i .i64 x)) (by omega))
      ·obtain rfl:k=KF:=by omega
       have hin:(zcz k∈NS)=False:=eq_false hf2
       have hns2:=hns k
       have hib:=zk8 (t:=pt) (nm:=zcz k) hqa hab has
       have hig:zoU pq pt (zcz k)=zb6 pq pt (zcz k):=rfl
       have hip2:zk7 pq pt (zcz k):=hip
       obtain⟨I,hI⟩:∃I,zb6 pq pt (zcz k)=I:=⟨_,rfl⟩
       rw[hI]at hib hig hP3
       obtain⟨B',hB'⟩:∃B',zbX (zcL b i) [I]=B':=⟨_,rfl⟩
       have hok':zcC uses B' (a+1):=by
        rw[←hB']
        exact(ko.out.mark i).add (fs:=[I]) (fun y hy=>by rw[List.mem_singleton.1 hy];exact hib) rfl (by omega)
       rw[hB']at hP3
       obtain⟨r,hr⟩:∃r,rec B' (a+1)=r:=⟨_,rfl⟩
       rw[hr]at hP3
       have hrun:=ki.out B' (a+1) hok' (by omega)
       rw[hr]at hrun
       obtain⟨c,hc⟩:∃c,zcz k=c:=⟨_,rfl⟩
       rw[hc]at hne hin hig hip2 hP3 hns2
       repeat'(first|refine zaJ.i hip2 fun _=>?_|refine zaC (id:=28) hm hZ3 13000 (lsw [184,256] [270,1000028,1000044,1000063,1000064]) zvB (by kernel_rfl) (by kernel_rfl) ?_|refine zav.i (zIq (b:=b) (i:=i) (fs:=[I]) h2 ⟨by omega,by omega,by omega,by simp⟩ hsn (by simp only[go_sem]) (.inr (by simp only[List.map_cons,List.map_nil,zaI])) hB' ?_)|refine zav.i (zcq (T:=7) (xs:=[enc B']) (cs:=[.i .i64 uses,.i .i64 (a+1)]) rfl hrun (by simp only[go_sem]) ?_)|refine And.intro ?_ ?_|exact True.intro|refine rq fun _=>?_|refine rf fun _=>?_|simp only[go_sem,zvB,hns2,hne,hin,hig,zax,zac,zaz,zae,zaa,Tryz.f13])
       all_goals(
        rw[kq.out,←hP3]
        refine⟨?_,?_⟩
        ·simp only[go_sem,zaR,zp0]
        ·simp only[go_sem,zaR,zp0])
   ·have hP2:(match zcf 2 (b.list.drop 0) (b.used.drop 0) 0 with
     |some i=>zc6 rec b a i (b.list.getD i za2)
     |none=>zgv rec b a K (zyl.drop 3))=V:=hP
    obtain⟨X,hX⟩:∃X,zcf 2 (b.list.drop 0) (b.used.drop 0) 0=X:=⟨_,rfl⟩
    rw[hX]at hP2
    repeat'(first|refine And.intro ?_ ?_|exact True.intro|refine rq fun _=>?_|refine rf fun _=>?_|simp only[go_sem,zax,zac,zaz,zae,zaa,Tryz.f13])
    refine zaq hm hZ3 13000 (lsw [184,256] [270,1000028,1000044,1000063,1000064]) (ι:=zd7 b.list.length q0 fun i=>zcf 2 (b.list.drop i) (b.used.drop i) i=X)
     ⟨fun q=>⟨frL [(0,.ptr (7,0) 0),(3,.ptr (13003,1) 0),(4,.ptr (13004,2) 0),(5,.fz (.b false)),(6,.fz (.b false)),(10,.fz (.i .i64 2)),(55,.full [.i .i64 1,.i .i64 4,.i .i64 2]),(56,.fz (.i .i64 3)),(57,.fz (.i .i64 2)),(62,.fz (.sl (b.list.map enc))),(63,.fz (.i .i64 b.list.length)),(64,.fz (.i .i64 q.i))],hpL [((13003,1),some ⟨[.fz (.sl (b.list.map enc)),.fz (.sl (b.used.map enc)),.fz (.sl (b.seen.map enc)),.fz (.i .i64 b.rounds)],true,false⟩),((13004,2),some ⟨[.fz (.i .i64 0),.fz (.i .i64 0),.fz (.i .i64 0),.fz (.s []),.full []],true,false⟩),((7,0),some ⟨[.fz (.i .i64 uses),.fz (.i .i64 a)],true,false⟩)],q.m⟩,fun q=>b.list.length-q.i⟩
     ⟨0,q0,by omega,by omega,hX⟩ (by kernel_rfl) ?_ ?_
    ·refine zaj ?_ ?_ ?_<;>simp only[go_sem]
     all_goals first|done|rfl|omega
    rintro⟨i,q1,hi,hq1,hE⟩
    try simp only at hi hq1 hE
    rcases Nat.lt_or_ge i b.list.length with h1|h1
    rotate_left
    ·rw[ziS h1]at hE
     rw[←hE]at hP2
     simp only at hP2
     obtain rfl:i=b.list.length:=by omega
     repeat'(first|refine And.intro ?_ ?_|exact True.intro|refine rq fun _=>?_|refine rf fun _=>?_|simp only[go_sem,Nat.lt_irrefl,zax,zac,zaz,zae,zaa,Tryz.f13])
     all_goals refine⟨⟨3,q1,by omega,by omega,hP2⟩,by simp only;omega,?_⟩
     all_goals refine zaj ?_ ?_ ?_<;>simp only[go_sem]
     all_goals first|done|rfl|omega
    have hul:=ko.out.ul
    have h2:i<b.used.length:=by omega
    obtain⟨f,hf⟩:∃f,b.list[i]=f:=⟨_,rfl⟩
    obtain⟨u,hu2⟩:∃u,b.used[i]=u:=⟨_,rfl⟩
    have hfb:brF f:=ko.out.br f (by rw[←hf];exact List.getElem_mem h1)
    rw[zgX h1 h2,hf,hu2]at hE
    obtain⟨k,hk⟩:∃k,(zaf f).1=k:=⟨_,rfl⟩
    rw[hk]at hE
    cases u with
    |true=>
     rw[if_neg (by simp)]at hE
     repeat'(first|refine And.intro ?_ ?_|exact True.intro|refine rq fun _=>?_|refine rf fun _=>?_|simp only[go_sem,h1,h2,hf,hu2,hk,zax,zac,zaz,zae,zaa,Tryz.f13])
     all_goals refine⟨⟨i+1,q1+1,by omega,by omega,hE⟩,by simp only;omega,?_⟩
     all_goals refine zaj ?_ ?_ ?_<;>simp only[go_sem]
     all_goals first|done|rfl|omega
    |false=>
     by_cases hkw:k=2
     rotate_left
     ·rw[if_neg (by simp[hkw])]at hE
      have hkw':(k=2)=False:=eq_false hkw
      repeat'(first|refine zaJ.i hfb fun _=>?_|refine And.intro ?_ ?_|exact True.intro|refine rq fun _=>?_|refine rf fun _=>?_|simp only[go_sem,h1,h2,hf,hu2,hk,hkw',zax,zac,zaz,zae,zaa,Tryz.f13])
      all_goals refine⟨⟨i+1,q1+1,by omega,by omega,hE⟩,by simp only;omega,?_⟩
      all_goals refine zaj ?_ ?_ ?_<;>simp only[go_sem]
      all_goals first|done|rfl|omega
     subst hkw
     rw[if_pos ⟨rfl,rfl⟩]at hE
     rw[←hE]at hP2
     simp only at hP2
     have hfg:b.list.getD i za2=f:=by rw[List.getD_eq_getElem?_getD,List.getElem?_eq_getElem h1,hf];rfl
     rw[hfg]at hP2
     obtain⟨pb1,pb2,pb3,pb4⟩:=zfz hfb
     obtain⟨po,pq,pt,hPt⟩:∃o q t,zaf f=(2,o,q,t):=⟨(zaf f).2.1,(zaf f).2.2.1,(zaf f).2.2.2,by rw[←hk]⟩
     rw[hPt]at pb1 pb2 pb3 pb4
     simp only at pb1 pb2 pb3 pb4
     unfold zc6 at hP2
     rw[hPt]at hP2
     have hP3:(if(2:Int)=1 then _ else if(2:Int)=4 then _ else zeX rec (zcL b i) i po [] a)=V:=hP2
     rw[if_neg (by decide),if_neg (by decide)]at hP3
     have hvi:b.used.isEmpty=false∧i+1≤b.used.length:=⟨by cases hb:b.used with|nil=>rw[hb]at h2;simp at h2|cons=>rfl,by omega⟩
     have hsn:∀s∈b.seen,s.length≤1000000:=fun s hs=>by have:=ko.out.ss s hs;omega
     have hsl:=ko.out.sl
     obtain⟨U,hU⟩:∃U,b.used.set i true=U:=⟨_,rfl⟩
     have hUl:U.length=b.used.length:=by rw[←hU,List.length_set]
     have hUe:U.isEmpty=false:=by
      cases hb:U with
      |nil=>rw[hb]at hUl;simp at hUl;omega
      |cons=>rfl
     have hUc:(b.used.map (D.fz∘enc)).set i (.fz (.b true))=zad (U.map enc):=by
      rw[zbc,←hU,List.map_set];rfl
     have em:zcL b i=⟨b.list,U,b.seen,b.rounds⟩:=by rw[←hU];rfl
     obtain⟨b1,hb1⟩:∃b1,zcL b i=b1:=⟨_,rfl⟩
     rw[hb1]at hP3 em
     have e1:enc b1= .agg [.sl (b.list.map enc),.sl (U.map enc),.sl (b.seen.map enc),.i .i64 b.rounds]:=by rw[em];rfl
     have hb1l:b1.list=b.list:=by rw[em]
     have hb1u:b1.used=U:=by rw[em]
     have hb1s:b1.seen=b.seen:=by rw[em]
     repeat'(first|refine zaJ.i hfb fun _=>?_|refine zaJ.i hvi fun _=>?_|refine zav.i (zd8 (cs:=b.used.map enc) (xs:=[FD.sl (b.used.map enc)]) rfl (zij (l:=b.used) (by omega)) fun g1 n1 hg1 hn1=>?_)|refine And.intro ?_ ?_|exact True.intro|refine rq fun _=>?_|refine rf fun _=>?_|simp only[go_sem,h1,h2,hf,hu2,hk,hPt,zax,zac,zaz,zae,zaa,Tryz.f13])
     refine zaq hm hZ3 13000 (lsw [184,256] [270,1000028,1000044,1000063,1000064]) (ι:=zFT po.length (g1+1) fun j subs a'=>zeX rec b1 i (po.drop j) subs a'=V∧a≤a'∧a'≤300∧subs.length=j)
      ⟨fun q=>⟨frL [(0,.ptr (7,0) 0),(3,.ptr (13003,1) 0),(4,.ptr (13004,2) 0),(5,.fz (.b false)),(6,.fz (.b false)),(11,.fz (.i .i64 i)),(26,.ow (13184,q.g) 5 (q.subs.map enc)),(158,.fz (.sl (po.map enc))),(159,.fz (.i .i64 po.length)),(160,.fz (.i .i64 q.i))],
       hpL [((13003,1),some ⟨[.fz (.sl (b.list.map enc)),.fz (.sl (U.map enc)),.fz (.sl (b.seen.map enc)),.fz (.i .i64 b.rounds)],true,false⟩),((13004,2),some ⟨[.fz (.i .i64 0),.fz (.i .i64 0),.fz (.i .i64 0),.fz (.s []),.full []],true,false⟩),((7,0),some ⟨[.fz (.i .i64 uses),.fz (.i .i64 q.a)],true,false⟩),((13184,q.g),some tok)],q.m⟩,fun q=>po.length-q.i⟩
      ⟨0,[],a,n1,n1+1,by omega,by omega,by omega,⟨hP3,by omega,by omega,rfl⟩⟩ (by kernel_rfl) ?_ ?_
     ·refine zbg [] [(13184,n1)] [((26007,g1),U.map enc)] ?_ ?_ ?_ ?_ ?_<;>simp only[go_sem,hUc,hUl,hvi.1]
      all_goals first|done|rfl|omega|(refine⟨?_,?_⟩<;>omega)
     rintro⟨j,subs,a',g,m',hj,hg,hm',hB0,hB1,hB2,hB3⟩
     try simp only at hj hg hm' hB0 hB1 hB2 hB3
     rcases Nat.lt_or_ge j po.length with h3|h3
     rotate_left
     ·have hB9:=hB0
      rw[List.drop_eq_nil_of_le h3,zeX]at hB9
      obtain rfl:j=po.length:=by omega
      repeat'(first|refine And.intro ?_ ?_|exact True.intro|refine rq fun _=>?_|refine rf fun _=>?_|simp only[go_sem,Nat.lt_irrefl,zax,zac,zaz,zae,zaa,Tryz.f13])
      all_goals(
       rw[kq.out,←hB9]
       refine⟨?_,?_⟩
       ·simp only[go_sem,zaR]
       ·simp only[go_sem,zaR])
     have hB9:=hB0
     rw[zri h3]at hB9
     obtain⟨x,hx⟩:∃x,po[j]=x:=⟨_,rfl⟩
     have hxb:brF x:=pb1 x (by rw[←hx];exact List.getElem_mem h3)
     rw[hx]at hB9
     by_cases hfu:300<a'+1
     ·rw[if_pos hfu]at hB9
      have hfT:(300<a'+1)=True:=eq_true hfu
      repeat'(first|refine zav.i (zmZ (uses:=uses) (by simp only[go_sem]) ⟨(by omega),hB2⟩ (by omega) ?_)|refine And.intro ?_ ?_|exact True.intro|refine rq fun _=>?_|refine rf fun _=>?_|simp only[go_sem,hfT,h3,hx,zax,zac,zaz,zae,zaa,Tryz.f13])
      all_goals(
       rw[kq.out,←hB9]
       refine⟨?_,?_⟩
       ·simp only[go_sem,zaR,zoa,zbU]
       ·simp only[go_sem,zaR,zoa,zbU])
     rw[if_neg hfu]at hB9
     have hfT:(300<a'+1)=False:=eq_false hfu
     obtain⟨B',hB'⟩:∃B',zbX b1 [x]=B':=⟨_,rfl⟩
     have hok':zcC uses B' (a'+1):=by
      rw[←hB',←hb1]
      exact((ko.out.mark i).mono hB1 hB2).add (fs:=[x]) (fun y hy=>by rw[List.mem_singleton.1 hy];exact hxb) rfl (by omega)
     rw[hB']at hB9
     obtain⟨r,hr⟩:∃r,rec B' (a'+1)=r:=⟨_,rfl⟩
     rw[hr]at hB9
     have hrun:=ki.out B' (a'+1) hok' (by omega)
     rw[hr]at hrun
     have had:=kd.out B' (a'+1) (by omega)
     rw[hr]at had
     obtain⟨had1,had2⟩:=had
     repeat'(first|refine zav.i (zmZ (uses:=uses) (by simp only[go_sem]) ⟨(by omega),hB2⟩ (by omega) ?_)|refine And.intro ?_ ?_|exact True.intro|refine rq fun _=>?_|refine rf fun _=>?_|simp only[go_sem,hfT,h3,hx,zax,zac,zaz,zae,zaa,Tryz.f13])
     refine zav.i (zCd (b:=b1) (fs:=[x]) (by rw[hb1l,hb1u,hb1s,hUl];exact⟨by omega,by omega,by omega,by simp⟩) (by rw[hb1s];exact hsn) (by rw[e1];simp only[List.map_cons,List.map_nil,zaI];rfl) ?_)
     rw[hB']
     repeat'(first|refine And.intro ?_ ?_|exact True.intro|refine rq fun _=>?_|refine rf fun _=>?_|simp only[go_sem,zax,zac,zaz,zae,zaa,Tryz.f13])
     refine zav.i (zcq (T:=7) (xs:=[enc B']) (cs:=[.i .i64 uses,.i .i64 (a'+1)]) rfl hrun (by simp only[go_sem]) ?_)
     cases hrk:r.ok with
     |false=>
      rw[if_pos hrk]at hB9
      repeat'(first|refine And.intro ?_ ?_|exact True.intro|refine rq fun _=>?_|refine rf fun _=>?_|simp only[go_sem,hrk,zax,zac,zaz,zae,zaa,Tryz.f13])
      all_goals(
       rw[kq.out,←hB9]
       refine⟨?_,?_⟩
       ·simp only[go_sem,zaR,zbU]
       ·simp only[go_sem,zaR,zbU])
     |true=>
      rw[if_neg (by rw[hrk];simp)]at hB9
      repeat'(first|refine And.intro ?_ ?_|exact True.intro|refine rq fun _=>?_|refine rf fun _=>?_|simp only[go_sem,hrk,zax,zac,zaz,zae,zaa,Tryz.f13])
      all_goals refine⟨⟨j+1,subs++[r.p],r.added,m'+2,m'+3,by omega,by omega,by omega,⟨hB9,by omega,had2 hrk,by simp[hB3]⟩⟩,by simp only;omega,?_⟩
      all_goals refine zbg [] [] [] ?_ ?_ ?_ ?_ ?_<;>simp only[go_sem,List.map_append,zaR]
      all_goals first|done|rfl|omega
  ·obtain rfl:w=3:=by omega
   have hG:zgk rec uses b a=V:=hK.trans hP
   unfold zgk at hG
   by_cases hru:b.rounds=uses
   ·rw[if_pos hru]at hG
    have hrT:(b.rounds=uses)=True:=eq_true hru
    repeat'(first|refine zaC (id:=44) hm hZ3 13000 (lsw [184,256] [270,1000028,1000044,1000063,1000064]) zlK (by kernel_rfl) (by kernel_rfl) ?_|refine And.intro ?_ ?_|exact True.intro|refine rq fun _=>?_|refine rf fun _=>?_|simp only[go_sem,zlK,hrT,Int.lt_irrefl,zax,zac,zaz,zae,zaa,Tryz.f13])
    all_goals(
     rw[kq.out,←hG]
     refine⟨?_,?_⟩
     ·simp only[go_sem,zaR,zbU]
     ·simp only[go_sem,zaR,zbU])
   rw[if_neg hru]at hG
   have hrT:(b.rounds=uses)=False:=eq_false hru
   have hsn:∀s∈b.seen,s.length≤1000000:=fun s hs=>by have:=ko.out.ss s hs;omega
   have hsl:=ko.out.sl
   have hul:=ko.out.ul
   obtain⟨NS,hNS⟩:∃NS,zaL b.list=NS:=⟨_,rfl⟩
   obtain⟨CS,hCS0⟩:∃CS,ze3 b.list=CS:=⟨_,rfl⟩
   rw[hCS0]at hG
   obtain⟨c0,hc0⟩:∃c0:Brn,c0=⟨b.list,b.used,b.seen,b.rounds+1⟩:=⟨_,rfl⟩
   rw[←hc0]at hG
   have hS0:zFQ uses a b.list.length ⟨c0,[],a⟩:=by
    refine⟨?_,by rw[hc0];exact Nat.le_refl _,by simp⟩
    rw[hc0]
    exact⟨ko.out.br,ko.out.ll,ko.out.ul,ko.out.sl,ko.out.ss,by simp only;omega,by simp only;omega,ko.out.u,ko.out.a0,ko.out.a1⟩
   have hcs:(((NS.length:Int)=0)=True∧CS=[⟨[99,48]⟩])∨(((NS.length:Int)=0)=False∧CS=NS):=by
    rw[←hCS0]
    unfold ze3
    rw[hNS]
    by_cases h:NS=[]
    ·left;rw[if_pos h,h];exact⟨by simp,rfl⟩
    ·right;rw[if_neg h];exact⟨eq_false fun h2=>h (List.eq_nil_of_length_eq_zero (by omega)),rfl⟩
   have hcb:CS.length≤1000000000:=by
    have hbl:b.list.length≤1000:=by omega
    have hbm:b.list.length*1000000≤1000*1000000:=Nat.mul_le_mul_right _ hbl
    have hnl:=znj ko.out.br
    rw[hNS]at hnl
    rcases hcs with⟨_,h⟩|⟨_,h⟩
    ·rw[h];simp
    ·rw[h];omega
   rcases hcs with⟨hnT,hCS⟩|⟨hnT,hCS⟩
   all_goals(
    repeat'(first|refine zaJ.i hcl fun _=>?_|refine zaC (id:=44) hm hZ3 13000 (lsw [184,256] [270,1000028,1000044,1000063,1000064]) zlK (by kernel_rfl) (by kernel_rfl) ?_|refine And.intro ?_ ?_|exact True.intro|refine rq fun _=>?_|refine rf fun _=>?_|simp only[go_sem,zlK,hrT,hNS,hnT,zax,zac,zaz,zae,zaa,Tryz.f13])
    refine zav.i (zCc (zsN CS c0 b.list 0) (b:=b) (B':=b) (fs:=[]) ⟨by omega,by omega,by omega,by simp⟩ hsn zwg rfl fun r g n1 h1 h2 h3 h4=>?_)
    repeat'(first|refine And.intro ?_ ?_|exact True.intro|refine rq fun _=>?_|refine rf fun _=>?_|simp only[go_sem,hNS,hnT,zax,zac,zaz,zae,zaa,Tryz.f13])
    refine zaq hm hZ3 13000 (lsw [184,256] [270,1000028,1000044,1000063,1000064]) (ι:=zyq b.list.length (n1+2) fun i s=>zz0 rec (zji CS (b.list.drop i) i s)=V∧zFQ uses a b.list.length s)
     ⟨fun q=>⟨frL [(0,.ptr (7,0) 0),(3,.ptr (13003,1) 0),(4,.ptr (13004,2) 0),(5,.fz (.b false)),(6,.fz (.b false)),(32,.fz (.sl (CS.map enc))),(33,.arr (13270,q.z) 5 0 q.s.steps.length),(34,.ptr (13034,n1) 0),(213,.fz (.sl (b.list.map enc))),(214,.fz (.i .i64 b.list.length)),(215,.fz (.i .i64 q.i))],hpL [((13003,1),some ⟨[.fz (.sl (b.list.map enc)),.fz (.sl (b.used.map enc)),.fz (.sl (b.seen.map enc)),.fz (.i .i64 b.rounds)],true,false⟩),((13004,2),some ⟨[.fz (.i .i64 0),.fz (.i .i64 0),.fz (.i .i64 0),.fz (.s []),.full []],true,false⟩),((7,0),some ⟨[.fz (.i .i64 uses),.fz (.i .i64 q.s.added)],true,false⟩),((13034,n1),some ⟨[.fz (.sl (q.s.c.list.map enc)),.fz (.sl (q.s.c.used.map enc)),.arr (14043,q.r) 1 0 q.s.c.seen.length,.fz (.i .i64 q.s.c.rounds)],true,false⟩),((14043,q.r),some ⟨zbi (zsN CS q.s.c (b.list.drop q.i) q.i) q.g q.s.c.seen,false,q.s.c.seen.isEmpty⟩),((33007,q.g),some tok),((13270,q.z),some ⟨zad (q.s.steps.map enc),false,q.s.steps.isEmpty⟩)],q.m⟩,fun q=>b.list.length-q.i⟩
     ⟨0,⟨c0,[],a⟩,r,g,n1+1,n1+2,by omega,by omega,by omega,by omega,by omega,⟨hG,hS0⟩⟩ (by kernel_rfl) ?_ ?_
    ·refine zbg [] [(13270,n1+1)] [] ?_ ?_ ?_ ?_ ?_<;>simp only[go_sem,hCS,hc0,List.drop_zero]
     all_goals repeat'(first|refine And.intro ?_ ?_|omega|rfl|exact zwC (by omega)|simp only[go_sem])
     all_goals trace_state
    rintro⟨i,⟨c,st,ad⟩,r,g,z,m2,hi,hr,hg,hz,hm2,hq,hS⟩
    try simp only at hi hr hg hz hm2 hq hS
    obtain⟨hS1,hS2,hS3⟩:=hS
    try simp only at hS1 hS2 hS3
    have hsa:=hS1.a0
    have hsb:=hS1.a1
    have hcl2:=hS1.ll
    have hcu:=hS1.ul
    have hcs2:=hS1.sl
    rcases Nat.lt_or_ge i b.list.length with h5|h5
    ·obtain⟨f,hf⟩:∃f,b.list[i]=f:=⟨_,rfl⟩
     have hfb:brF f:=hcl.1 f (by rw[←hf];exact List.getElem_mem h5)
     have hq9:=hq
     rw[zt8 h5,hf]at hq9
     obtain⟨k,hk⟩:∃k,(zaf f).1=k:=⟨_,rfl⟩
     by_cases hk3:k=3
     rotate_left
     ·have hk3':(k=3)=False:=eq_false hk3
      rw[hk,if_neg hk3]at hq9
      have hnx:=zAx (CS:=CS) (c:=c) (k:=i) h5 (by rw[hf,hk];exact hk3)
      repeat'(first|refine zaJ.i hfb fun _=>?_|refine And.intro ?_ ?_|exact True.intro|refine rq fun _=>?_|refine rf fun _=>?_|simp only[go_sem,h5,hf,hk,hk3',zax,zac,zaz,zae,zaa,Tryz.f13])
      all_goals refine⟨⟨i+1,⟨c,st,ad⟩,r,g,z,m2+1,by omega,by omega,by omega,by omega,by omega,⟨hq9,hS1,hS2,hS3⟩⟩,by simp only;omega,?_⟩
      all_goals refine zaj ?_ ?_ ?_<;>simp only[go_sem,hnx]
      all_goals first|done|rfl|omega
     subst hk3
     rw[if_pos hk]at hq9
     obtain⟨po,pq,pt,hPt⟩:∃o q t,zaf f=(3,o,q,t):=⟨(zaf f).2.1,(zaf f).2.2.1,(zaf f).2.2.2,by rw[←hk]⟩
     obtain⟨pb1,pb2,pb3,pb4⟩:=zfz hfb
     rw[hPt]at pb4 hq9
     obtain⟨qa,hqa,hab,has⟩:=pb4 (by simp)
     try simp only at hq9 hqa
     have hnx:=zxC (CS:=CS) (c:=c) (k:=i) h5 (by rw[hf,hPt])
     have hq8:zz0 rec ((zjW pq pt i (CS.drop 0) ⟨c,st,ad⟩).bind (zji CS (b.list.drop (i+1)) (i+1)))=V:=hq9
     repeat'(first|refine zaJ.i hfb fun _=>?_|refine And.intro ?_ ?_|exact True.intro|refine rq fun _=>?_|refine rf fun _=>?_|simp only[go_sem,h5,hf,hk,hPt,zax,zac,zaz,zae,zaa,Tryz.f13])
     refine zaq hm hZ3 13000 (lsw [184,256] [270,1000028,1000044,1000063,1000064]) (ι:=zyq CS.length (m2+2) fun j s=>zz0 rec ((zjW pq pt i (CS.drop j) s).bind (zji CS (b.list.drop (i+1)) (i+1)))=V∧zFQ uses a b.list.length s)
      ⟨fun q=>⟨frL [(0,.ptr (7,0) 0),(3,.ptr (13003,1) 0),(4,.ptr (13004,2) 0),(5,.fz (.b false)),(6,.fz (.b false)),(32,.fz (.sl (CS.map enc))),(33,.arr (13270,q.z) 5 0 q.s.steps.length),(34,.ptr (13034,n1) 0),(213,.fz (.sl (b.list.map enc))),(214,.fz (.i .i64 b.list.length)),(35,.fz (.i .i64 i)),(39,.ptr (13039,m2+1) 0),(40,.fz (.b pt)),(215,.fz (.i .i64 i)),(230,.fz (.sl (CS.map enc))),(231,.fz (.i .i64 CS.length)),(232,.fz (.i .i64 q.i))],
       hpL [((13003,1),some ⟨[.fz (.sl (b.list.map enc)),.fz (.sl (b.used.map enc)),.fz (.sl (b.seen.map enc)),.fz (.i .i64 b.rounds)],true,false⟩),((13004,2),some ⟨[.fz (.i .i64 0),.fz (.i .i64 0),.fz (.i .i64 0),.fz (.s []),.full []],true,false⟩),((7,0),some ⟨[.fz (.i .i64 uses),.fz (.i .i64 q.s.added)],true,false⟩),((13034,n1),some ⟨[.fz (.sl (q.s.c.list.map enc)),.fz (.sl (q.s.c.used.map enc)),.arr (14043,q.r) 1 0 q.s.c.seen.length,.fz (.i .i64 q.s.c.rounds)],true,false⟩),((14043,q.r),some ⟨zbi (zsO CS q.s.c (CS.drop q.i) i (b.list.drop (i+1))) q.g q.s.c.seen,false,q.s.c.seen.isEmpty⟩),((33007,q.g),some tok),((13270,q.z),some ⟨zad (q.s.steps.map enc),false,q.s.steps.isEmpty⟩),((13039,m2+1),some ⟨[.fz (.i .i64 pq.kind),.fz (.s pq.name.l),.fz (.sl (pq.words.map enc)),.fz (.sl (pq.subs.map enc))],true,false⟩)],q.m⟩,fun q=>CS.length-q.i⟩
      ⟨0,⟨c,st,ad⟩,r,g,z,m2+2,by omega,by omega,by omega,by omega,by omega,⟨hq8,hS1,hS2,hS3⟩⟩ (by kernel_rfl) ?_ ?_
     ·refine zaj ?_ ?_ ?_<;>simp only[go_sem,hnx,List.drop_zero]
      all_goals first|done|rfl|omega
     rintro⟨j,⟨c,st,ad⟩,r,g,z,m3,hj,hr,hg,hz,hm3,hq,hS⟩
     try simp only at hj hr hg hz hm3 hq hS
     obtain⟨hS1,hS2,hS3⟩:=hS
     try simp only at hS1 hS2 hS3
     have hsa:=hS1.a0
     have hsb:=hS1.a1
     have hcl2:=hS1.ll
     have hcu:=hS1.ul
     have hcs2:=hS1.sl
     rcases Nat.lt_or_ge j CS.length with h6|h6
     ·obtain⟨w,hx⟩:∃w,CS[j]=w:=⟨_,rfl⟩
      have his:i<c.seen.length:=by omega
      obtain⟨Si,hSi⟩:∃Si,c.seen[i]=Si:=⟨_,rfl⟩
      have hgD:c.seen.getD i []=Si:=by rw[List.getD_eq_getElem?_getD,List.getElem?_eq_getElem his,hSi];rfl
      have hq9:=hq
      rw[zt9 h6,hx]at hq9
      simp only[hgD]at hq9
      obtain⟨kk,hkk⟩:∃kk,zsO CS c (CS.drop j) i (b.list.drop (i+1))=kk:=⟨_,rfl⟩
      have hrow:i+1≤(zbi kk g c.seen).length∧c.seen.isEmpty=false:=⟨by rw[zaS];omega,by cases hb:c.seen with|nil=>rw[hb]at his;simp at his|cons=>rfl⟩
      by_cases hin:w∈Si
      ·rw[if_pos hin]at hq9
       have hinT:(w∈Si)=True:=eq_true hin
       have hnx:=zAy (CS:=CS) (c:=c) (ws:=CS) (i:=i) (fs:=b.list.drop (i+1)) h6 (by rw[hx,hgD];exact hin)
       rw[hkk]at hnx
       have hgt:=zej (k:=kk) (g:=g) his
       rw[hSi]at hgt
       by_cases hik:i=kk
       ·rw[if_pos hik]at hgt
        repeat'(first|refine zaJ.i hrow fun _=>?_|refine And.intro ?_ ?_|exact True.intro|refine rq fun _=>?_|refine rf fun _=>?_|simp only[go_sem,hkk,hx,hinT,h6,hgt,zax,zac,zaz,zae,zaa,Tryz.f13])
        all_goals refine⟨⟨j+1,⟨c,st,ad⟩,r,g,z,m3,by omega,by omega,by omega,by omega,by omega,⟨hq9,hS1,hS2,hS3⟩⟩,by simp only;omega,?_⟩
        all_goals refine zaj ?_ ?_ ?_<;>simp only[go_sem,←hnx]
        all_goals first|done|rfl|omega
       ·rw[if_neg hik]at hgt
        repeat'(first|refine zaJ.i hrow fun _=>?_|refine And.intro ?_ ?_|exact True.intro|refine rq fun _=>?_|refine rf fun _=>?_|simp only[go_sem,hkk,hx,hinT,h6,hgt,zax,zac,zaz,zae,zaa,Tryz.f13])
        all_goals refine⟨⟨j+1,⟨c,st,ad⟩,r,g,z,m3,by omega,by omega,by omega,by omega,by omega,⟨hq9,hS1,hS2,hS3⟩⟩,by simp only;omega,?_⟩
        all_goals refine zaj ?_ ?_ ?_<;>simp only[go_sem,←hnx]
        all_goals first|done|rfl|omega
      ·rw[if_neg hin]at hq9
       have hinT:(w∈Si)=False:=eq_false hin
       have hnx:=zxE (CS:=CS) (c:=c) (ws:=CS) (i:=i) (fs:=b.list.drop (i+1)) h6 (by rw[hx,hgD];exact hin)
       have hki:kk=i:=hkk.symm.trans hnx
       have hgt:=zej (k:=kk) (g:=g) his
       rw[hSi,if_pos hki.symm]at hgt
       by_cases hfu:300<ad+1
       ·rw[if_pos hfu]at hq9
        have hfT:(300<ad+1)=True:=eq_true hfu
        have hq7:zoa (ad+1)=V:=hq9
        repeat'(first|refine zaJ.i hrow fun _=>?_|refine zav.i (zmZ (uses:=uses) (by simp only[go_sem]) ⟨hsa,hsb⟩ (by omega) ?_)|refine And.intro ?_ ?_|exact True.intro|refine rq fun _=>?_|refine rf fun _=>?_|simp only[go_sem,hfT,hkk,hx,hinT,h6,hgt,zax,zac,zaz,zae,zaa,Tryz.f13])
        all_goals(
         rw[kq.out,←hq7]
         refine⟨?_,?_⟩
         ·simp only[go_sem,zaR,zoa,zbU]
         ·simp only[go_sem,zaR,zoa,zbU])
       rw[if_neg hfu]at hq9
       have hfT:(300<ad+1)=False:=eq_false hfu
       have hib:=zk8 (t:=pt) (nm:=w) hqa hab has
       have hig:zoU pq pt w=zb6 pq pt w:=rfl
       have hip:zk7 pq pt w:=⟨qa,hqa,hab.ft,by omega⟩
       obtain⟨I,hI⟩:∃I,zb6 pq pt w=I:=⟨_,rfl⟩
       rw[hI]at hib hig hq9
       obtain⟨S1,hSS⟩:∃S1,c.seen.set i (Si++[w])=S1:=⟨_,rfl⟩
       have hc1:saw c i w=⟨c.list,c.used,S1,c.rounds⟩:=by unfold saw;rw[hgD,hSS]
       have hok':zcC uses (zbX ⟨c.list,c.used,S1,c.rounds⟩ [I]) (ad+1):=by rw[←hc1];exact hS1.saw his hib (by omega)
       have hc1n:S1.length=c.seen.length:=by rw[←hSS,List.length_set]
       rw[hc1]at hq9
       have hsw:∀id:Abs.Id,D.toFDs ((zbi kk g c.seen).set i (.ow id 1 (Si.map enc++[.s w.l])))=some (S1.map enc):=fun id=>by
        rw[←hSS]
        have:=zx0 (k:=kk) (g:=g) (i:=i) (es:=1) (id:=id) (S:=c.seen) (x:=Si++[w]) his
        rw[List.map_append]at this
        exact this
       have hsn1:∀s∈S1,s.length≤1000000:=fun s hs=>by
        rw[←hSS]at hs
        rcases List.mem_or_eq_of_mem_set hs with h|h
        ·have:=hS1.ss s h;omega
        ·have:=hS1.ss Si (by rw[←hSi];exact List.getElem_mem his)
         rw[h,List.length_append,List.length_singleton];omega
       have hSl:Si.length≤1000:=by
        have:=hS1.ss Si (by rw[←hSi];exact List.getElem_mem his)
        omega
       obtain⟨B',hB'⟩:∃B',zbX ⟨c.list,c.used,S1,c.rounds⟩ [I]=B':=⟨_,rfl⟩
       have hBl:B'.list.length=c.list.length+1:=by rw[←hB'];unfold zbX;simp
       have hrow2:c.seen.isEmpty=false∧i+1≤(zbi kk g c.seen).length:=⟨hrow.2,hrow.1⟩
       have hst:st.length*5≤(zad (st.map enc)).length∧fits (st.length+1) 64:=⟨by rw[zeA];exact Nat.le_refl _,zbF (by omega) (by decide)⟩
       have hstk:(zad (st.map enc)).take (st.length*5)=zad (st.map enc):=List.take_of_length_le (by rw[zeA];exact Nat.le_refl _)
       have hse:c.seen.isEmpty=true→S1=[]:=fun h=>by rw[hrow.2]at h;cases h
       have hlen1:c.list.length≤100000∧c.used.length≤100000∧S1.length≤100000∧[I].length≤100000:=⟨by omega,by omega,by omega,by simp⟩
       rw[hB']at hq9 hok'
       repeat'(first|refine zav.i (zF1 (zsO CS B' (CS.drop (j+1)) i (b.list.drop (i+1))) (b:=⟨c.list,c.used,S1,c.rounds⟩) (B':=B') (fs:=[I]) hlen1 hsn1 hB' (by simp only[go_sem]) hse (hsw (13256,m3)) hc1n.symm (by simp only[List.map_cons,List.map_nil,zaI]) fun r4 g4 n4 h11 h12 h13 h14=>?_)|refine zaJ.i hrow fun _=>?_|refine zaJ.i hrow2 fun _=>?_|refine zaJ.i hst fun _=>?_|refine zaJ.i hip fun _=>?_|refine zaC (id:=63) hm hZ3 13000 (lsw [184,256] [270,1000028,1000044,1000063,1000064]) zvC (by kernel_rfl) (by kernel_rfl) ?_|refine zaC (id:=64) hm hZ3 13000 (lsw [184,256] [270,1000028,1000044,1000063,1000064]) zvD (by kernel_rfl) (by kernel_rfl) ?_|refine zav.i (zmZ (uses:=uses) (by simp only[go_sem]) ⟨hsa,hsb⟩ (by omega) ?_)|refine And.intro ?_ ?_|exact True.intro|refine rq fun _=>?_|refine rf fun _=>?_|simp only[go_sem,hstk,zvC,zvD,hfT,hig,hkk,hx,hinT,h6,hgt,zax,zac,zaz,zae,zaa,Tryz.f13])
       all_goals refine⟨⟨j+1,⟨B',st++[.mk 4 i 0 w []],ad+1⟩,r4,g4,n4,n4+1,by omega,by omega,by omega,by omega,by omega,⟨hq9,hok',by simp only;omega,by simp only[List.length_append,List.length_singleton];omega⟩⟩,by simp only;omega,?_⟩
       all_goals refine zaj ?_ ?_ ?_<;>simp only[go_sem,List.map_append,zk9,zCI,Bool.and_false]
       all_goals first|done|rfl|omega
     ·have hq9:=hq
      rw[List.drop_eq_nil_of_le h6,zjW]at hq9
      have hq8:zz0 rec (zji CS (b.list.drop (i+1)) (i+1) ⟨c,st,ad⟩)=V:=hq9
      have hnx:=zxD (CS:=CS) (c:=c) (ws:=CS) (i:=i) (fs:=b.list.drop (i+1)) h6
      obtain rfl:j=CS.length:=by omega
      repeat'(first|refine And.intro ?_ ?_|exact True.intro|refine rq fun _=>?_|refine rf fun _=>?_|simp only[go_sem,Nat.lt_irrefl,zax,zac,zaz,zae,zaa,Tryz.f13])
      all_goals refine⟨⟨i+1,⟨c,st,ad⟩,r,g,z,m3,by omega,by omega,by omega,by omega,by omega,⟨hq8,hS1,hS2,hS3⟩⟩,by simp only;omega,?_⟩
      all_goals refine zaj ?_ ?_ ?_<;>simp only[go_sem,hnx]
      all_goals first|done|rfl|omega
    ·have hq9:=hq
     rw[List.drop_eq_nil_of_le h5,zji]at hq9
     have hq8:(if st=[]then(⟨zbU,false,false,ad⟩:Res)else⟨zhL st (rec c ad).p,(rec c ad).ok,(rec c ad).lim,(rec c ad).added⟩)=V:=hq9
     obtain rfl:i=b.list.length:=by omega
     by_cases hst0:st=[]
     ·rw[if_pos hst0]at hq8
      have hstT:((st.length:Int)=0)=True:=eq_true (by rw[hst0];rfl)
      repeat'(first|refine And.intro ?_ ?_|exact True.intro|refine rq fun _=>?_|refine rf fun _=>?_|simp only[go_sem,hstT,Nat.lt_irrefl,zax,zac,zaz,zae,zaa,Tryz.f13])
      all_goals(
       rw[kq.out,←hq8]
       refine⟨?_,?_⟩
       ·simp only[go_sem,zaR,zbU]
       ·simp only[go_sem,zaR,zbU])
     rw[if_neg hst0]at hq8
     have hsp:1≤st.length:=by
      cases hb:st with
      |nil=>exact absurd hb hst0
      |cons=>simp
     have hstT:((st.length:Int)=0)=False:=eq_false (by omega)
     obtain⟨rr,hr9⟩:∃rr,rec c ad=rr:=⟨_,rfl⟩
     have hrun:=ki.out c ad hS1 (by omega)
     rw[hr9]at hrun hq8
     have hve:c.seen.isEmpty=true→c.seen=[]:=fun h=>List.isEmpty_iff.1 h
     repeat'(first|refine zav.i (zHQ (c:=c) (k:=zsN CS c (b.list.drop b.list.length) b.list.length) (g:=g) (v:=c.seen.isEmpty) hrun (by simp only[go_sem]) hve (by simp only[go_sem]) ?_)|refine And.intro ?_ ?_|exact True.intro|refine rq fun _=>?_|refine rf fun _=>?_|simp only[go_sem,hstT,Nat.lt_irrefl,zax,zac,zaz,zae,zaa,Tryz.f13])
     refine zaq hm hZ3 13000 (lsw [184,256] [270,1000028,1000044,1000063,1000064]) (ι:=zB2 st.length (m2+1) fun k tl p=>tl.length=st.length-k∧p=zhL (st.drop k) rr.p)
      ⟨fun q=>⟨frL [(0,.ptr (7,0) 0),(3,.ptr (13003,1) 0),(4,.ptr (13004,2) 0),(5,.fz (.b false)),(6,.fz (.b false)),(33,.arr (13270,z) 5 0 st.length),(43,.ptr (13043,m2) 0),(44,.fz (.b rr.ok)),(45,.fz (.b rr.lim)),(46,.fz (.i .i64 ((q.i:Int)-1)))],
       hpL [((13004,2),some ⟨[.fz (.i .i64 0),.fz (.i .i64 0),.fz (.i .i64 0),.fz (.s []),.full []],true,false⟩),((7,0),some ⟨[.fz (.i .i64 uses),.fz (.i .i64 rr.added)],true,false⟩),((13043,m2),some ⟨[.fz (.i .i64 q.p.kind),.fz (.i .i64 q.p.form),.fz (.i .i64 q.p.other),.fz (.s q.p.name.l),.fz (.sl (q.p.subs.map enc))],true,false⟩),
        ((13270,z),some ⟨zad ((st.take q.i++q.tl).map enc),false,st.isEmpty⟩)],q.m⟩,fun q=>q.i⟩
      ⟨st.length,[],rr.p,m2+1,by omega,by omega,⟨by simp,by rw[List.drop_length];rfl⟩⟩ (by kernel_rfl) ?_ ?_
     ·refine zaj ?_ ?_ ?_<;>simp only[go_sem,List.take_length,List.append_nil]
      all_goals first|done|rfl|omega
     rintro⟨k,tl,p,m4,hk,hm4,htl,hp⟩
     try simp only at hk hm4 htl hp
     cases k with
     |zero=>
      have hz0:((0:Int)≤0-1)=False:=eq_false (by omega)
      have hp0:zhL st rr.p=p:=by rw[hp];rfl
      have hq7:=hq8
      rw[hp0]at hq7
      repeat'(first|refine And.intro ?_ ?_|exact True.intro|refine rq fun _=>?_|refine rf fun _=>?_|simp only[go_sem,hz0,zax,zac,zaz,zae,zaa,Tryz.f13])
      all_goals(
       rw[kq.out,←hq7]
       refine⟨?_,?_⟩
       ·simp only[go_sem,zaR]
       ·simp only[go_sem,zaR])
     |succ k=>
      have hs1:(k:Int)+1-1=k:=by omega
      have hs2:((0:Int)≤k)=True:=eq_true (by omega)
      have hk5:k<st.length:=by omega
      obtain⟨x,hx⟩:∃x,st[k]=x:=⟨_,rfl⟩
      obtain⟨FA,hFA⟩:∃FA,zad ((st.take k).map enc)=FA:=⟨_,rfl⟩
      obtain⟨FT,hFT⟩:∃FT,zad (tl.map enc)=FT:=⟨_,rfl⟩
      have hFl:FA.length=k*5:=by rw[←hFA,zeA,List.length_take];congr 1;omega
      have hspl:zad (List.map enc (st.take (k+1))++List.map enc tl)=FA++(.fz (.i .i64 x.kind):: .fz (.i .i64 x.form):: .fz (.i .i64 x.other):: .fz (.s x.name.l):: .fz (.sl (x.subs.map enc))::FT):=by
       rw[List.take_succ_eq_append_getElem hk5,hx,List.map_append,List.append_assoc,zgh,hFA,zgh,hFT]
       rw[List.map_cons,List.map_nil,zaR]
       rfl
      have hrw:st.isEmpty=false∧k*5+4+1≤FA.length+(FT.length+1+1+1+1+1):=⟨by cases hb:st with|nil=>exact absurd hb hst0|cons=>rfl,by omega⟩
      have hrw2:k*5+5≤FA.length+(FT.length+1+1+1+1+1)∧st.isEmpty=false:=⟨by omega,hrw.1⟩
      have hset:∀y:D,(FA++(D.fz (.i .i64 x.kind)::D.fz (.i .i64 x.form)::D.fz (.i .i64 x.other)::D.fz (.s x.name.l)::D.fz (.sl (x.subs.map enc))::FT)).set (k*5+4) y=FA++(D.fz (.i .i64 x.kind)::D.fz (.i .i64 x.form)::D.fz (.i .i64 x.other)::D.fz (.s x.name.l)::y::FT):=fun y=>by
       rw[List.set_append_right _ _ (by omega),hFl,Nat.add_sub_cancel_left];rfl
      have hdr:∀y:D,(FA++(D.fz (.i .i64 x.kind)::D.fz (.i .i64 x.form)::D.fz (.i .i64 x.other)::D.fz (.s x.name.l)::y::FT)).drop (k*5)=D.fz (.i .i64 x.kind)::D.fz (.i .i64 x.form)::D.fz (.i .i64 x.other)::D.fz (.s x.name.l)::y::FT:=fun y=>by rw[←hFl,List.drop_left]
      repeat'(first|refine zaJ.i hrw fun _=>?_|refine zaJ.i hrw2 fun _=>?_|refine And.intro ?_ ?_|exact True.intro|refine rq fun _=>?_|refine rf fun _=>?_|simp only[go_sem,hset,hdr,hspl,hs1,hs2,zax,zac,zaz,zae,zaa,Tryz.f13])
      have hspl2:zad (List.map enc (st.take k)++FD.agg [.i .i64 x.kind,.i .i64 x.form,.i .i64 x.other,.s x.name.l,.sl [FD.agg [.i .i64 p.kind,.i .i64 p.form,.i .i64 p.other,.s p.name.l,.sl (p.subs.map enc)]]]::List.map enc tl)=FA++(D.fz (.i .i64 x.kind)::D.fz (.i .i64 x.form)::D.fz (.i .i64 x.other)::D.fz (.s x.name.l)::D.fz (.sl [FD.agg [.i .i64 p.kind,.i .i64 p.form,.i .i64 p.other,.s p.name.l,.sl (p.subs.map enc)]])::FT):=by
       rw[←hFA,←hFT,zgh];rfl
      have hwp:Prf.mk x.kind x.form x.other x.name [p]=zhL (st.drop k) rr.p:=by
       rw[List.drop_eq_getElem_cons hk5,hx,hp];rfl
      all_goals refine⟨⟨k,.mk x.kind x.form x.other x.name [p]::tl,.mk x.kind x.form x.other x.name [p],m4,by omega,by omega,⟨by simp only[List.length_cons];omega,hwp⟩⟩,by simp only;omega,?_⟩
      all_goals refine zbg [] [] [] ?_ ?_ ?_ ?_ ?_<;>simp only[go_sem,List.map_append,zaR,hspl2]
      all_goals repeat'(first|refine And.intro ?_ ?_|omega|rfl|simp only[go_sem,←hFA,←hFT])
      all_goals trace_state)
end Go.Proofs.YtkkffhphodngkaaGreatDoor
