/- several texts of this proof in one; no conditions -/
import Derived.Test.YtkkffhphodngkaaGreatDoorAT
import Derived.Test.YtkkffhphodngkaaGreatDoorY18
import Derived.Test.YtkkffhphodngkaaGreatDoorY13
import Derived.Test.YtkkffhphodngkaaGreatDoorY10
set_option maxRecDepth 100000
set_option maxHeartbeats 1000000
set_option linter.unusedSimpArgs false
namespace Go.Proofs.YtkkffhphodngkaaGreatDoor
open Go Go.Abs Go.Proofs
section
variable {P:Program} {G:Nat→List FD}
theorem zfp {f:FuncId}{args:List D}{xs ys:List FD}{H:zas}{n t es:Nat}{R:D→zas→Nat→Prop}(ha:D.toFDs args=some xs)
  (h:zau P G f (xs.map .fz) H0 0 (fun d H1 n1=>∃g,g<n1∧d= .ow (t,g) es ys∧H1 (t,g)=some tok))(hR:∀g n',n≤g→g<n'→R (.ow (t,g) es ys) (hpX [((t,g),some tok)] H) n'):zau P G f args H n R:=by
 refine zcQ h.1 fun hfr=>zaU (zeU ha h) ?_
 rintro d H' n' ⟨d1,H1,n1,⟨g,hg,rfl,ho⟩,rfl,rfl,rfl⟩
 have hsh:shH n H H1 (t,g+n)=some tok:=by
  unfold shH
  rw[if_pos (by simp),show(t,g+n-n)=(t,g) by rw[Nat.add_sub_cancel],ho]
  rfl
 refine⟨.ow (t,g+n) es ys,hpX [((t,g+n),some tok)] H,n+n1,zbS ?_ (fun id o hid=>?_) (Nat.le_refl _),hR (g+n) (n+n1) (by omega) (by omega)⟩
 ·exact⟨rfl,trivial⟩
 ·simp only[hpX]at hid
  split at hid
  ·rename_i e;subst e;rw[←hid];exact hsh
  ·have hlt:id.2<n:=by
    rcases Nat.lt_or_ge id.2 n with h3|h3
    ·exact h3
    ·rw[hfr id h3]at hid;cases hid
   show shH n H H1 id=some o
   unfold shH
   rw[if_neg (by omega)]
   exact hid
theorem zd8 {f:FuncId}{args:List D}{xs cs:List FD}{H:zas}{n t es len:Nat}{v:Bool}{R:D→zas→Nat→Prop}(ha:D.toFDs args=some xs)
  (h:zau P G f (xs.map .fz) H0 0 (fun d H1 n1=>∃g,g<n1∧d= .arr (t,g) es 0 len∧H1 (t,g)=some ⟨cs.map .fz,false,v⟩))(hR:∀g n',n≤g→g<n'→R (.arr (t,g) es 0 len) (hpX [((t,g),some ⟨cs.map .fz,false,v⟩)] H) n'):zau P G f args H n R:=by
 refine zcQ h.1 fun hfr=>zaU (zeU ha h) ?_
 rintro d H' n' ⟨d1,H1,n1,⟨g,hg,rfl,ho⟩,rfl,rfl,rfl⟩
 have hm:∀l:List FD,zqD n (l.map .fz)=l.map .fz:=fun l=>by
  rw[zeK,List.map_map]
  exact List.map_congr_left fun x _=>rfl
 have hsh:shH n H H1 (t,g+n)=some ⟨cs.map .fz,false,v⟩:=by
  unfold shH
  rw[if_pos (by simp),show(t,g+n-n)=(t,g) by rw[Nat.add_sub_cancel],ho]
  simp only[Option.map_some,shO,hm]
 refine⟨.arr (t,g+n) es 0 len,hpX [((t,g+n),some ⟨cs.map .fz,false,v⟩)] H,n+n1,zbS ?_ (fun id o hid=>?_) (Nat.le_refl _),hR (g+n) (n+n1) (by omega) (by omega)⟩
 ·exact⟨rfl,trivial⟩
 ·simp only[hpX]at hid
  split at hid
  ·rename_i e;subst e;rw[←hid];exact hsh
  ·have hlt:id.2<n:=by
    rcases Nat.lt_or_ge id.2 n with h3|h3
    ·exact h3
    ·rw[hfr id h3]at hid;cases hid
   show shH n H H1 id=some o
   unfold shH
   rw[if_neg (by omega)]
   exact hid
end
theorem zzw {l:List Abs.zab}(hl:l.length≤1000000):zau Tryz.prog GA 32 [.fz (.sl (l.map enc))] H0 0 (fun d H n=>∃g,g<n∧d= .ow (32007,g) 4 (l.map enc)∧H (32007,g)=some tok):=by
 rw[zes]
 obtain⟨Q,hQ⟩:∃Q:D→zas→Nat→Prop,Q=(fun d H n=>(d= .full []∧l=[]∧n=0∧H=hpL [])∨∃g,g<n∧d= .ow (32007,g) 4 (l.map enc)∧H (32007,g)=some tok):=⟨_,rfl⟩
 have key:zau Tryz.prog GA 32 [.fz (.sl (l.map enc))] (hpL []) 0 Q:=by
  refine zag (N:=8) hm hY9 32000 (lsw [7] []) zLF Tryz.func32 rfl rfl (by simp) (by kernel_rfl) ?_
  simp only[go_sem]
  refine zq4.i fun b hb=>?_
  cases b
  ·repeat'(first|refine And.intro ?_ ?_|exact True.intro|refine rq fun _=>?_|refine rf fun _=>?_|simp only[go_sem,Tryz.f32])
   rw[hQ]
   exact .inr ⟨0,by omega,by simp only[go_sem],by simp only[go_sem]⟩
  ·have:l=[]:=List.eq_nil_of_length_eq_zero (hb rfl)
   subst this
   repeat'(first|refine And.intro ?_ ?_|exact True.intro|refine rq fun _=>?_|refine rf fun _=>?_|simp only[go_sem,Tryz.f32])
   rw[hQ]
   exact .inl ⟨rfl,rfl,rfl,rfl⟩
 refine zaU key ?_
 rw[hQ]
 rintro d H n (⟨rfl,rfl,rfl,rfl⟩|⟨g,hg,rfl,ho⟩)
 ·refine⟨.ow (32007,0) 4 [],hpL [((32007,0),some tok)],1,?_,0,by omega,rfl,by simp only[go_sem]⟩
  refine zbg [] [(32007,0)] [] ?_ ?_ ?_ ?_ ?_<;>simp only[go_sem]
  all_goals first|done|rfl
 ·exact⟨_,H,n,zbS ⟨rfl,trivial⟩ (fun _ _ h=>h) (Nat.le_refl _),g,hg,rfl,ho⟩
theorem zzv {l:List Bool}(hl:l.length≤1000000):zau Tryz.prog GA 26 [.fz (.sl (l.map enc))] H0 0 (fun d H n=>∃g,g<n∧d= .ow (26007,g) 1 (l.map enc)∧H (26007,g)=some tok):=by
 rw[zes]
 obtain⟨Q,hQ⟩:∃Q:D→zas→Nat→Prop,Q=(fun d H n=>(d= .full []∧l=[]∧n=0∧H=hpL [])∨∃g,g<n∧d= .ow (26007,g) 1 (l.map enc)∧H (26007,g)=some tok):=⟨_,rfl⟩
 have key:zau Tryz.prog GA 26 [.fz (.sl (l.map enc))] (hpL []) 0 Q:=by
  refine zag (N:=8) hm hY9 26000 (lsw [7] []) zJL Tryz.func26 rfl rfl (by simp) (by kernel_rfl) ?_
  simp only[go_sem]
  refine zq4.i fun b hb=>?_
  cases b
  ·repeat'(first|refine And.intro ?_ ?_|exact True.intro|refine rq fun _=>?_|refine rf fun _=>?_|simp only[go_sem,Tryz.f26])
   rw[hQ]
   exact .inr ⟨0,by omega,by simp only[go_sem],by simp only[go_sem]⟩
  ·have:l=[]:=List.eq_nil_of_length_eq_zero (hb rfl)
   subst this
   repeat'(first|refine And.intro ?_ ?_|exact True.intro|refine rq fun _=>?_|refine rf fun _=>?_|simp only[go_sem,Tryz.f26])
   rw[hQ]
   exact .inl ⟨rfl,rfl,rfl,rfl⟩
 refine zaU key ?_
 rw[hQ]
 rintro d H n (⟨rfl,rfl,rfl,rfl⟩|⟨g,hg,rfl,ho⟩)
 ·refine⟨.ow (26007,0) 1 [],hpL [((26007,0),some tok)],1,?_,0,by omega,rfl,by simp only[go_sem]⟩
  refine zbg [] [(26007,0)] [] ?_ ?_ ?_ ?_ ?_<;>simp only[go_sem]
  all_goals first|done|rfl
 ·exact⟨_,H,n,zbS ⟨rfl,trivial⟩ (fun _ _ h=>h) (Nat.le_refl _),g,hg,rfl,ho⟩
theorem ztv {l:List Str}(hl:l.length≤1000000):zau Tryz.prog GA 33 [.fz (.sl (l.map enc))] H0 0 (fun d H n=>∃g,g<n∧d= .ow (33007,g) 1 (l.map enc)∧H (33007,g)=some tok):=by
 rw[zes]
 obtain⟨Q,hQ⟩:∃Q:D→zas→Nat→Prop,Q=(fun d H n=>(d= .full []∧l=[]∧n=0∧H=hpL [])∨∃g,g<n∧d= .ow (33007,g) 1 (l.map enc)∧H (33007,g)=some tok):=⟨_,rfl⟩
 have key:zau Tryz.prog GA 33 [.fz (.sl (l.map enc))] (hpL []) 0 Q:=by
  refine zag (N:=8) hm hY9 33000 (lsw [7] []) zHF Tryz.func33 rfl rfl (by simp) (by kernel_rfl) ?_
  simp only[go_sem]
  refine zq4.i fun b hb=>?_
  cases b
  ·repeat'(first|refine And.intro ?_ ?_|exact True.intro|refine rq fun _=>?_|refine rf fun _=>?_|simp only[go_sem,Tryz.f33])
   rw[hQ]
   exact .inr ⟨0,by omega,by simp only[go_sem],by simp only[go_sem]⟩
  ·have:l=[]:=List.eq_nil_of_length_eq_zero (hb rfl)
   subst this
   repeat'(first|refine And.intro ?_ ?_|exact True.intro|refine rq fun _=>?_|refine rf fun _=>?_|simp only[go_sem,Tryz.f33])
   rw[hQ]
   exact .inl ⟨rfl,rfl,rfl,rfl⟩
 refine zaU key ?_
 rw[hQ]
 rintro d H n (⟨rfl,rfl,rfl,rfl⟩|⟨g,hg,rfl,ho⟩)
 ·refine⟨.ow (33007,0) 1 [],hpL [((33007,0),some tok)],1,?_,0,by omega,rfl,by simp only[go_sem]⟩
  refine zbg [] [(33007,0)] [] ?_ ?_ ?_ ?_ ?_<;>simp only[go_sem]
  all_goals first|done|rfl
 ·exact⟨_,H,n,zbS ⟨rfl,trivial⟩ (fun _ _ h=>h) (Nat.le_refl _),g,hg,rfl,ho⟩
theorem zij {l:List Bool}(hl:l.length≤1000000):zau Tryz.prog GA 26 [.fz (.sl (l.map enc))] H0 0 (fun d H n=>∃g,g<n∧d= .arr (26007,g) 1 0 l.length∧H (26007,g)=some ⟨(l.map enc).map .fz,false,l.isEmpty⟩):=by
 rw[zes]
 have hfl:zad (l.map enc)=(l.map enc).map .fz:=by
  unfold zad
  rw[List.map_map,List.flatMap_map]
  induction l with
  |nil=>rfl
  |cons x l ih=>rw[List.flatMap_cons,List.map_cons,ih (by simp at hl;omega)];rfl
 obtain⟨Q,hQ⟩:∃Q:D→zas→Nat→Prop,Q=(fun d H n=>(d= .full []∧l=[]∧n=0∧H=hpL [])∨∃g,g<n∧d= .arr (26007,g) 1 0 l.length∧H (26007,g)=some ⟨(l.map enc).map .fz,false,l.isEmpty⟩):=⟨_,rfl⟩
 have key:zau Tryz.prog GA 26 [.fz (.sl (l.map enc))] (hpL []) 0 Q:=by
  refine zag (N:=8) hm hY9 26000 (lst [7]) zJL Tryz.func26 rfl rfl (by simp) (by kernel_rfl) ?_
  simp only[go_sem]
  refine zq4.i fun b hb=>?_
  cases b
  ·repeat'(first|refine And.intro ?_ ?_|exact True.intro|refine rq fun _=>?_|refine rf fun _=>?_|simp only[go_sem,Tryz.f26])
   rw[hQ]
   refine .inr ⟨0,by omega,by simp only[go_sem],?_⟩
   simp only[go_sem,←hfl]
   all_goals trace_state
  ·have:l=[]:=List.eq_nil_of_length_eq_zero (hb rfl)
   subst this
   repeat'(first|refine And.intro ?_ ?_|exact True.intro|refine rq fun _=>?_|refine rf fun _=>?_|simp only[go_sem,Tryz.f26])
   rw[hQ]
   exact .inl ⟨rfl,rfl,rfl,rfl⟩
 refine zaU key ?_
 rw[hQ]
 rintro d H n (⟨rfl,rfl,rfl,rfl⟩|⟨g,hg,rfl,ho⟩)
 ·refine⟨.arr (26007,0) 1 0 0,hpL [((26007,0),some ⟨[],false,true⟩)],1,?_,0,by omega,rfl,by simp only[go_sem]⟩
  refine zbg [] [(26007,0)] [] ?_ ?_ ?_ ?_ ?_<;>simp only[go_sem]
  all_goals first|done|rfl
 ·exact⟨_,H,n,zbS ⟨rfl,trivial⟩ (fun _ _ h=>h) (Nat.le_refl _),g,hg,rfl,ho⟩
end Go.Proofs.YtkkffhphodngkaaGreatDoor
namespace Go.Proofs.YtkkffhphodngkaaGreatDoor
open Go Go.Abs Go.Proofs
theorem zsy:zan Tryz.prog GA zn7:=fun f t xs r c h _ _=>by cases h
def zbi (k g:Nat)(S:List (List Str)):List D:=S.mapIdx fun j x=>if j=k then .ow (33007,g) 1 (x.map enc)else .fz (.sl (x.map enc))
theorem zaS {k g:Nat}{S:List (List Str)}:(zbi k g S).length=S.length:=by simp[zbi]
theorem zkc {k g:Nat}{S:List (List Str)}{x:List Str}:zbi k g (S++[x])=zbi k g S++[if S.length=k then .ow (33007,g) 1 (x.map enc)else .fz (.sl (x.map enc))]:=by
 unfold zbi;rw[List.mapIdx_concat]
theorem zxZ {k g g2:Nat}{S:List (List Str)}(h:S.length≤k):zbi k g S=zbi k g2 S:=by
 unfold zbi
 apply List.ext_getElem (by simp)
 intro j h1 h2
 have hj:j<S.length:=by simpa using h1
 simp only[List.getElem_mapIdx]
 rw[if_neg (by omega),if_neg (by omega)]
theorem zej {k g j:Nat}{S:List (List Str)}(h:j<S.length):(zbi k g S).getD j .junk=if j=k then .ow (33007,g) 1 (S[j].map enc)else .fz (.sl (S[j].map enc)):=by
 unfold zbi
 rw[List.getD_eq_getElem?_getD,List.getElem?_eq_getElem (by simpa using h),Option.getD_some,List.getElem_mapIdx]
theorem zlP {te:TI}{d:D}{n:Nat}(h:te.size=1)(hz:te.zero=[d]):zkj te n=List.replicate n d:=by
 unfold zkj
 rw[h,hz,Nat.mul_one]
 apply List.ext_getElem (by simp)
 intro j h1 h2
 simp[Nat.mod_one]
theorem zmU {n:Nat}:zad ((List.replicate n false).map enc)=List.replicate n (D.fz (.b false)):=by
 induction n with
 |zero=>rfl
 |succ n ih=>
  rw[List.replicate_succ,List.map_cons,List.replicate_succ,←ih]
  rfl
instance:Kc Bool 1:=⟨fun _=>rfl⟩
theorem ztP {n n':Nat}{pre:Abs.Id→Abs.Id}{vn:Abs.Id→Bool}{z:Abs.Id→Option (List FD)}{H:zas}{k g j:Nat}{x:List Str}(hg:g<n'):
  Dr n n' pre vn z H (if j=k then .ow (33007,g) 1 (x.map enc)else .fz (.sl (x.map enc))) (if j=k then .ow (33007,g) 1 (x.map enc)else .fz (.sl (x.map enc))):=by
 split
 ·rw[zLU,zDW];exact⟨rfl,rfl,hg⟩
 ·rw[zKh]
theorem zp3 {n n':Nat}{pre:Abs.Id→Abs.Id}{vn:Abs.Id→Bool}{z:Abs.Id→Option (List FD)}{H:zas}{k g:Nat}{S:List (List Str)}{d d':D}(hg:g<n')(hd:Dr n n' pre vn z H d d'):
  Drs n n' pre vn z H (zbi k g S++[d]) (zbi k g S++[d']):=by
 refine zsS (by simp) fun j hj=>?_
 simp only[List.length_append,zaS,List.length_cons,List.length_nil]at hj
 rcases Nat.lt_or_ge j S.length with h|h
 ·rw[zaV (by rw[zaS];exact h),zaV (by rw[zaS];exact h),zej h]
  exact ztP hg
 ·obtain rfl:j=S.length:=by omega
  rw[zaW (by rw[zaS];exact h),zaW (by rw[zaS];exact h),zaS,Nat.sub_self]
  exact hd
theorem ztR {n n':Nat}{pre:Abs.Id→Abs.Id}{vn:Abs.Id→Bool}{z:Abs.Id→Option (List FD)}{H:zas}{k g m:Nat}{S:List (List Str)}(hg:g<n'):
  Drs n n' pre vn z H (zbi k g S++List.replicate m (.full [])) (zbi k g (S++List.replicate m [])):=by
 refine zsS (by simp[zaS]) fun j hj=>?_
 rw[zaS]at hj
 rw[zej hj]
 rw[List.length_append,List.length_replicate]at hj
 rcases Nat.lt_or_ge j S.length with h|h
 ·rw[zaV (by rw[zaS];exact h),zej h,List.getElem_append_left h]
  exact ztP hg
 ·rw[zaW (by rw[zaS];exact h),zaS,List.getElem_append_right h]
  simp only[List.getElem_replicate,List.map_nil]
  rw[List.getD_eq_getElem?_getD,List.getElem?_replicate_of_lt (by omega),Option.getD_some]
  split
  ·rw[zxU];exact⟨rfl,hg⟩
  ·rw[zDV]
theorem zk9 {α:Type}{A:List α}{x:α}:(A++[x]).isEmpty=false:=by cases A<;>rfl
structure zBZ (n n0:Nat) where
 i:Nat
 r:Nat
 g:Nat
 m:Nat
 hi:i≤n
 hr:r<m
 hg:g<m
 hm:n0≤m
def zqQ:Tv:=(.q 0 (.q 2 (.br [(1,(.br [(3,(.br [(4,(.br [(5,(.q 6 (.br [(7,.leaf)])))]))]))])),(3,(.br [(1,(.br [(4,(.br [(5,(.q 6 (.br [(7,.leaf)])))]))])),(4,(.q 1 (.br [(5,(.q 6 (.br [(7,.leaf)])))])))]))])))
set_option maxHeartbeats 4000000 in
theorem zIr (k:Nat){b:Brn}{fs:List Abs.zab}(hb:b.list.length≤100000∧b.used.length≤100000∧b.seen.length≤100000∧fs.length≤100000)(hs:∀s∈b.seen,s.length≤1000000):
  zau Tryz.prog GA 14 [.fz (enc b),.fz (.sl (fs.map enc))] (hpL []) 0 (fun d H n=>∃r g,r<n∧g<n∧d= .agg [.fz (.sl ((b.list++fs).map enc)),.fz (.sl ((b.used++List.replicate fs.length false).map enc)),.arr (14043,r) 1 0 (b.seen.length+fs.length),.fz (.i .i64 b.rounds)]∧
   H (14043,r)=some ⟨zbi k g (b.seen++List.replicate fs.length []),false,(b.seen++List.replicate fs.length []).isEmpty⟩∧H (33007,g)=some tok):=by
 obtain⟨hb1,hb2,hb3,hb4⟩:=hb
 obtain⟨Q,hQ⟩:∃Q:D→zas→Nat→Prop,Q=(fun d H n=>∃r g,r<n∧g<n∧d= .agg [.fz (.sl ((b.list++fs).map enc)),.fz (.sl ((b.used++List.replicate fs.length false).map enc)),.arr (14043,r) 1 0 (b.seen.length+fs.length),.fz (.i .i64 b.rounds)]∧
   H (14043,r)=some ⟨zbi k g b.seen++List.replicate fs.length (D.full []),false,b.seen.isEmpty&&(zbi k g b.seen++List.replicate fs.length (D.full [])).isEmpty⟩∧H (33007,g)=some tok):=⟨_,rfl⟩
 suffices hkey:zau Tryz.prog GA 14 [.fz (enc b),.fz (.sl (fs.map enc))] (hpL []) 0 Q by
  refine zaU hkey ?_
  rw[hQ]
  rintro d H n ⟨r,g,hr,hg,rfl,ho,hg2⟩
  have hve:(b.seen++List.replicate fs.length []).isEmpty=(b.seen.isEmpty&&(zbi k g b.seen++List.replicate fs.length (D.full [])).isEmpty):=by
   rw[Bool.eq_iff_iff]
   simp only[List.isEmpty_iff,Bool.and_eq_true,List.append_eq_nil_iff]
   constructor
   ·rintro⟨h1,h2⟩
    refine⟨h1,⟨by rw[h1];rfl,?_⟩⟩
    rw[List.replicate_eq_nil_iff]at h2 ⊢
    exact h2
   ·rintro⟨h1,_,h2⟩
    refine⟨h1,?_⟩
    rw[List.replicate_eq_nil_iff]at h2 ⊢
    exact h2
  refine⟨_,hpL [((14043,r),some ⟨zbi k g (b.seen++List.replicate fs.length []),false,(b.seen++List.replicate fs.length []).isEmpty⟩),((33007,g),some tok)],n,?_,r,g,hr,hg,rfl,by simp only[go_sem],by simp only[go_sem]⟩
  refine zbg [] [] [] ?_ ?_ ?_ ?_ ?_<;>simp only[go_sem,ho,hg2,hve]
  all_goals repeat'(first|refine And.intro ?_ ?_|omega|rfl|exact ztR hg|simp only[go_sem])
  all_goals trace_state
 have kq:=Kp.mk hQ
 have ks:=Kp.mk hs
 clear hQ hs
 refine zwa (N:=46) hm zsy 14000 (lsw [15] [35,36,1000003,1000007,1000009]) zLB Tryz.func14 rfl rfl (by simp) (by kernel_rfl) ?_
 repeat'(first|refine And.intro ?_ ?_|exact True.intro|refine rq fun _=>?_|refine rf fun _=>?_|simp only[go_sem,zax,Tryz.f14,zn7])
 refine zav.i (zfp (xs:=[FD.sl (b.list.map enc)]) rfl (zzw (l:=b.list) (by omega)) fun g1 n1 hg1 hn1=>?_)
 repeat'(first|refine And.intro ?_ ?_|exact True.intro|refine rq fun _=>?_|refine rf fun _=>?_|simp only[go_sem,zax,Tryz.f14,zn7])
 refine zjw (rid:=3) zsy 14000 (lsw [15] [35,36,1000003,1000007,1000009]) 5 rfl rfl rfl rfl rfl rfl rfl ?_
 repeat'(first|refine And.intro ?_ ?_|exact True.intro|refine rq fun _=>?_|refine rf fun _=>?_|simp only[go_sem,zax,Tryz.f14,zn7])
 refine zav.i (zfp (xs:=[FD.sl (b.used.map enc)]) rfl (zzv (l:=b.used) (by omega)) fun g2 n2 hg2 hn2=>?_)
 repeat'(first|refine And.intro ?_ ?_|exact True.intro|refine rq fun _=>?_|refine rf fun _=>?_|simp only[go_sem,zax,Tryz.f14,zn7])
 refine zlX.ow (kk:= .i64) ((List.replicate fs.length false).map enc) (te:=⟨1,1,[.fz (.b false)],.bool,false,false,[]⟩) (by simp only[go_sem]) Tryz.underlying3 (by omega) rfl rfl (by omega) (by simp) (by rw[zlP rfl rfl,Int.toNat_natCast];exact zmU) (o:=⟨[],false,true⟩) (by simp only[go_sem]) (zdf _) (zdf _) (by rw[zmU];simp[zcN]) (by rw[Int.toNat_natCast];exact zbF (by rw[List.length_map];omega) (by decide)) ?_
 repeat'(first|refine And.intro ?_ ?_|exact True.intro|refine rq fun _=>?_|refine rf fun _=>?_|simp only[go_sem,zax,Tryz.f14,zn7])
 refine zv9 hm zsy 14000 (lsw [15] [35,36,1000003,1000007,1000009]) (ι:=zBZ b.seen.length (n2+3))
  ⟨fun q=>⟨frL [(1,.fz (.sl (fs.map enc))),(2,.ptr (14002,0) 0),(4,.ptr (14004,1) 0),(5,.ptr (14005,2) 0),(25,.fz (.sl (b.seen.map enc))),(26,.fz (.i .i64 b.seen.length)),(27,.fz (.i .i64 q.i))],
   hpL [((14002,0),some ⟨[.fz (.sl (b.list.map enc)),.fz (.sl (b.used.map enc)),.fz (.sl (b.seen.map enc)),.fz (.i .i64 b.rounds)],true,false⟩),((14004,1),some ⟨[.full [],.full [],.full [],.fz (.i .i64 0)],true,false⟩),
    ((14005,2),some ⟨[.fz (.sl ((b.list++fs).map enc)),.fz (.sl ((b.used++List.replicate fs.length false).map enc)),.arr (14036,q.r) 1 0 q.i,.fz (.i .i64 b.rounds)],true,false⟩),
    ((14036,q.r),some ⟨zbi k q.g (b.seen.take q.i),false,(b.seen.take q.i).isEmpty⟩),((33007,q.g),some tok)],q.m⟩,fun q=>b.seen.length-q.i⟩
  ⟨0,n2+1,n2+2,n2+3,by omega,by omega,by omega,by omega⟩ (by kernel_rfl) ?_ ?_
 ·refine zbg [] [(14036,n2+1),(33007,n2+2)] [] ?_ ?_ ?_ ?_ ?_<;>simp only[go_sem,List.map_append,zbi]
  all_goals first|done|rfl|omega|(refine⟨by omega,by omega,⟨by omega,by omega⟩,⟨by omega,rfl⟩,by omega,by omega⟩)
 rintro⟨i,r,g,m,hi,hr,hg,hm2⟩
 try simp only at hi hr hg hm2
 rcases Nat.lt_or_ge i b.seen.length with h1|h1
 ·obtain⟨s,hx⟩:∃s,b.seen[i]=s:=⟨_,rfl⟩
  have hsl:s.length≤1000000:=ks.out s (by rw[←hx];exact List.getElem_mem h1)
  have e3:=List.take_succ_eq_append_getElem h1
  rw[hx]at e3
  have htl:(b.seen.take i).length=i:=by rw[List.length_take];omega
  have hts:(zbi k g (b.seen.take i)).take i=zbi k g (b.seen.take i):=List.take_of_length_le (by rw[zaS,htl];exact Nat.le_refl _)
  by_cases hik:i=k
  ·have hif:(i=k)=True:=eq_true hik
   repeat'(first|refine zav.i (zfp (xs:=[FD.sl (s.map enc)]) rfl (ztv (l:=s) (by omega)) fun g3 m3 hg3 hm3=>?_)|refine zaC (id:=7) hm zsy 14000 (lsw [15] [35,36,1000003,1000007,1000009]) zqQ (by kernel_rfl) (by kernel_rfl) ?_|refine And.intro ?_ ?_|exact True.intro|refine rq fun _=>?_|refine rf fun _=>?_|simp only[go_sem,hts,h1,hx,zqQ,zaS,htl,zaa,zax,Tryz.f14,zn7])
   all_goals
    have hsw:zbi k g (b.seen.take i)=zbi k g3 (b.seen.take i):=zxZ (by rw[htl];omega)
    refine⟨⟨i+1,m3+1,g3,m3+2,by omega,by omega,by omega,by omega⟩,by simp only;omega,?_⟩
    refine zbg [] [] [] ?_ ?_ ?_ ?_ ?_<;>simp only[go_sem,e3,hsw,zkc,htl,hif,List.map_append,zk9]
   all_goals repeat'(first|refine And.intro ?_ ?_|omega|rfl|(refine zp3 (by omega) ?_)|simp only[go_sem])
   all_goals trace_state
  ·have hif:(i=k)=False:=eq_false hik
   repeat'(first|refine zav.i (zfp (xs:=[FD.sl (s.map enc)]) rfl (ztv (l:=s) (by omega)) fun g3 m3 hg3 hm3=>?_)|refine zaC (id:=7) hm zsy 14000 (lsw [15] [35,36,1000003,1000007,1000009]) zqQ (by kernel_rfl) (by kernel_rfl) ?_|refine And.intro ?_ ?_|exact True.intro|refine rq fun _=>?_|refine rf fun _=>?_|simp only[go_sem,hts,h1,hx,zqQ,zaS,htl,zaa,zax,Tryz.f14,zn7])
   all_goals
    have hgg:(g=g3)=False:=eq_false (by omega)
    refine⟨⟨i+1,m3+1,g,m3+2,by omega,by omega,by omega,by omega⟩,by simp only;omega,?_⟩
    refine zbg [] [] [] ?_ ?_ ?_ ?_ ?_<;>simp only[go_sem,e3,zkc,htl,hif,hgg,List.map_append,zk9]
   all_goals repeat'(first|refine And.intro ?_ ?_|omega|rfl|(refine zp3 (by omega) ?_)|simp only[go_sem])
   all_goals trace_state
 ·obtain rfl:i=b.seen.length:=by omega
  have htl:(b.seen.take b.seen.length)=b.seen:=List.take_length
  have hts:(zbi k g b.seen).take b.seen.length=zbi k g b.seen:=List.take_of_length_le (by rw[zaS];exact Nat.le_refl _)
  repeat'(first|refine And.intro ?_ ?_|exact True.intro|refine rq fun _=>?_|refine rf fun _=>?_|simp only[go_sem,htl,Nat.lt_irrefl,hts,zaS,zax,Tryz.f14,zn7])
  refine zjw (rid:=9) zsy 14000 (lsw [15] [35,36,1000003,1000007,1000009]) 4 rfl rfl rfl rfl rfl rfl rfl ?_
  repeat'(first|refine And.intro ?_ ?_|exact True.intro|refine rq fun _=>?_|refine rf fun _=>?_|simp only[go_sem,htl,Nat.lt_irrefl,hts,zaS,zax,Tryz.f14,zn7])
  refine zlX.arr (kk:= .i64) (te:=⟨1,24,[.full []],.slice 9,false,false,[]⟩) (by simp only[go_sem]) Tryz.underlying3 (by omega) rfl rfl (by omega) (o:=⟨zbi k g b.seen,false,b.seen.isEmpty⟩) (by simp only[go_sem,htl]) (by simp[zaS]) (by rw[zlP rfl rfl];simp[zcN]) (by decide) (by rw[Int.toNat_natCast];exact zbF (by omega) (by decide)) ?_
  have hz:zkj ⟨1,24,[.full []],.slice 9,false,false,[]⟩ fs.length=List.replicate fs.length (D.full []):=zlP rfl rfl
  repeat'(first|refine And.intro ?_ ?_|exact True.intro|refine rq fun _=>?_|refine rf fun _=>?_|simp only[go_sem,hz,htl,Nat.lt_irrefl,hts,zaS,Int.toNat_natCast,Nat.mul_one,List.drop_zero,zax,Tryz.f14,zn7])
  rw[kq.out]
  refine⟨m,g,by omega,by omega,?_,?_,?_⟩
  ·simp only[go_sem,List.map_append]
  ·simp only[go_sem]
  ·simp only[go_sem]
end Go.Proofs.YtkkffhphodngkaaGreatDoor
namespace Go.Proofs.YtkkffhphodngkaaGreatDoor
open Go Go.Abs Go.Proofs
def Z1:Tbl:=Y9.add 24 (sp1 (fun f=>(zaf f).1) brF)
attribute [go_sem] Z1
set_option maxHeartbeats 4000000 in
theorem hZ1:zan Tryz.prog GA Z1:=by
 refine zbE zHD hY9 fun f hbr _=>?_
 have hkb:=zbM.1 hbr.v
 have hk1:=hkb.1
 have hk2:=hkb.2.1
 clear hkb
 by_cases k4:f.kind=4
 ·obtain⟨g,hg,s0,hbg⟩:=zcr hbr (.inl k4)
  have hgk:=zbM.1 hbg.v
  have hg1:=hgk.1
  have hg2:=hgk.2.1
  clear hgk
  have hcase:g.kind=1∨g.kind=2∨g.kind=3∨g.kind=4∨g.kind=5∨g.kind=6∨g.kind=7∨g.kind=8∨g.kind=9:=by omega
  rcases hcase with j|j|j|j|j|j|j|j|j
  all_goals
   have e:=zj7 k4 s0 j
   try simp only at e
   rw[e]
   refine zag (N:=32) hm hY9 24000 (lst []) zHD Tryz.func24 rfl rfl (by simp) (by kernel_rfl) ?_
   repeat'(first|refine And.intro ?_ ?_|exact True.intro|refine rq fun _=>?_|refine rf fun _=>?_|simp only[go_sem,k4,hg,j,zaa,zac,Tryz.f24])
 ·have hcase:f.kind=1∨f.kind=2∨f.kind=3∨f.kind=5∨f.kind=6∨f.kind=7∨f.kind=8∨f.kind=9:=by omega
  rcases hcase with j|j|j|j|j|j|j|j
  all_goals
   have e:=ziO k4 j
   try simp only at e
   rw[e]
   refine zag (N:=32) hm hY9 24000 (lst []) zHD Tryz.func24 rfl rfl (by simp) (by kernel_rfl) ?_
   repeat'(first|refine And.intro ?_ ?_|exact True.intro|refine rq fun _=>?_|refine rf fun _=>?_|simp only[go_sem,j,zaa,zac,Tryz.f24])
theorem zxg {B U:List Str}:(B.isEmpty&&U.isEmpty)=(B.isEmpty&&(zad (B.map enc++U.map enc)).isEmpty):=by
 rw[←List.map_append,zbc]
 cases B<;>cases U<;>rfl
theorem ziI (l:List Abs.zab):zaL l=zdr (zc9 (l.flatMap zaP)):=by
 unfold zaL zdr zc9;rw[zgq]
theorem zqX {f:Abs.zab}(h:brF f):(zaP f).length≤1000000:=by
 rw[zlL]
 have h1:=zd0 h.ft []
 have hs:=h.s
 have h2:(zdr (zc9 (cst f []))).length≤(zc9 (cst f [])).length:=by
  unfold zdr
  rw[List.length_map]
  have:=zc3 ((zc9 (cst f [])).map (·.l))
  rw[List.length_map]at this
  exact this
 rw[zda]at h2
 omega
set_option maxHeartbeats 4000000 in
theorem zDB {l:List Abs.zab}(hbr:∀f∈l,brF f)(hl:l.length≤100000):zau Tryz.prog GA 28 [.fz (enc l)] (hpL []) 0
  (fun d H n=>∃g,g<n∧d= .arr (28015,g) 1 0 (zaL l).length∧H (28015,g)=some ⟨zad ((zaL l).map enc),false,(l.flatMap zaP).isEmpty⟩):=by
 obtain⟨Q,hQ⟩:∃Q:D→zas→Nat→Prop,Q=(fun d H n=>∃g,g<n∧d= .arr (28015,g) 1 0 (zaL l).length∧H (28015,g)=some ⟨zad ((zaL l).map enc),false,(l.flatMap zaP).isEmpty⟩):=⟨_,rfl⟩
 rw[←hQ]
 obtain⟨A,hA⟩:∃A:Nat→List Str,A=fun i=>(l.take i).flatMap zaP:=⟨_,rfl⟩
 have hA0:A 0=[]:=by rw[hA];rfl
 have hAs:∀i (h:i<l.length),A (i+1)=A i++zaP l[i]:=fun i h=>by
  rw[hA];simp only
  rw[List.take_succ_eq_append_getElem h,List.flatMap_append,List.flatMap_cons,List.flatMap_nil,List.append_nil]
 have hAe:A l.length=l.flatMap zaP:=by rw[hA];simp only[List.take_length]
 rw[ziI,←hAe]at hQ
 have kb:=Kp.mk hbr
 have kA:=Kp.mk hAs
 have kq:=Kp.mk hQ
 clear hbr hA hAs hAe hQ
 refine zag (N:=21) hm hZ1 28000 (lst [15]) zJM Tryz.func28 rfl rfl (by simp) (by kernel_rfl) ?_
 repeat'(first|refine And.intro ?_ ?_|exact True.intro|refine rq fun _=>?_|refine rf fun _=>?_|simp only[go_sem,Tryz.f28])
 refine zaq hm hZ1 28000 (lst [15]) (ι:=zhC l.length 1 fun i=>(A i).length≤i*1000000)
  ⟨fun q=>⟨frL [(3,.arr (28015,q.g) 1 0 (A q.i).length),(6,.fz (.sl (l.map enc))),(7,.fz (.i .i64 l.length)),(8,.fz (.i .i64 q.i))],hpL [((28015,q.g),some ⟨zad ((A q.i).map enc),false,(A q.i).isEmpty⟩)],q.m⟩,fun q=>l.length-q.i⟩
  ⟨0,0,1,by omega,by omega,by omega,by rw[hA0];simp⟩ (by kernel_rfl) ?_ ?_
 ·refine zbg [] [(28015,0)] [] ?_ ?_ ?_ ?_ ?_<;>simp only[go_sem,hA0]
  all_goals first|done|rfl|omega
 rintro⟨i,g,m,hi,hg,hm2,hp⟩
 try simp only at hi hg hm2 hp
 rcases Nat.lt_or_ge i l.length with h1|h1
 ·obtain⟨x,hx⟩:∃x,l[i]=x:=⟨_,rfl⟩
  have hxb:brF x:=kb.out x (by rw[←hx];exact List.getElem_mem h1)
  have hs:=kA.out i h1
  rw[hx]at hs
  have hul:=zqX hxb
  obtain⟨U,hU⟩:∃U,zaP x=U:=⟨_,rfl⟩
  rw[hU]at hs hul
  obtain⟨B,hB⟩:∃B,A i=B:=⟨_,rfl⟩
  rw[hB]at hs hp
  have hft:fits (B.length+U.length) 16:=⟨by unfold zbh;omega,by omega⟩
  repeat'(first|refine zaJ.i hxb fun _=>?_|refine zaJ.i hft fun _=>?_|refine zaJ.i (by simp only[List.length_map];exact hft) fun _=>?_|refine And.intro ?_ ?_|exact True.intro|refine rq fun _=>?_|refine rf fun _=>?_|simp only[go_sem,h1,hx,hU,hB,zaa,zac,zae,Tryz.f28])
  all_goals refine⟨⟨i+1,m+1,m+2,by omega,by omega,by omega,by rw[hs,List.length_append];omega⟩,by simp only;omega,?_⟩
  all_goals refine zbg [] [] [] ?_ ?_ ?_ ?_ ?_<;>simp only[go_sem,hs,List.map_append,List.length_append]
  all_goals first|done|rfl|omega|exact⟨by omega,zxg⟩
 ·obtain rfl:i=l.length:=by omega
  obtain⟨B,hB⟩:∃B,A l.length=B:=⟨_,rfl⟩
  repeat'(first|refine And.intro ?_ ?_|exact True.intro|refine rq fun _=>?_|refine rf fun _=>?_|simp only[go_sem,hB,Nat.lt_irrefl,zac,zae,Tryz.f28])
  refine zav.i (zqH (l:=B) (bx:=false) (vt:=B.isEmpty) (by simp only[go_sem,hB]) ?_)
  have b1:=zda B
  repeat'(first|refine And.intro ?_ ?_|exact True.intro|refine rq fun _=>?_|refine rf fun _=>?_|simp only[go_sem,hB,Nat.lt_irrefl,zac,zae,Tryz.f28])
  rw[←zda B]
  refine zav.i (zpT (l:=zc9 B) (bx:=false) (vt:=B.isEmpty) (by simp only[go_sem]) ?_)
  repeat'(first|refine And.intro ?_ ?_|exact True.intro|refine rq fun _=>?_|refine rf fun _=>?_|simp only[go_sem,hB,Nat.lt_irrefl,zac,zae,Tryz.f28])
  rw[kq.out,hB]
  exact⟨g,by omega,by simp only[go_sem],by simp only[go_sem]⟩
def Z2:Tbl:=Z1.add 28 (sp1 zaL fun l=>(∀f∈l,brF f)∧l.length≤100000)
attribute [go_sem] Z2
theorem hZ2:zan Tryz.prog GA Z2:=by
 refine zbE zJM hZ1 fun l hp hw=>?_
 refine zaU (zDB hp.1 hp.2) ?_
 rintro d H n ⟨g,hg,rfl,ho⟩
 have hn:(l.flatMap zaP).isEmpty=true→zaL l=[]:=fun h=>by
  rw[ziI,List.isEmpty_iff.1 h]
  cases hu:zdr (zc9 [])with
  |nil=>rfl
  |cons x t=>
   have:x∈zdr (zc9 []):=by rw[hu];simp
   unfold zdr zc9 at this
   rw[zgq]at this
   obtain⟨y,hy,rfl⟩:=List.mem_map.1 this
   have h2:=(zeh _ _).1 hy
   have h3:=(zcw _).mem_iff.1 h2
   simp at h3
 obtain⟨U,hU⟩:∃U,zaL l=U:=⟨_,rfl⟩
 rw[hU]at ho hn ⊢
 refine⟨.fz (.sl (U.map enc)),H0,n,?_,rfl⟩
 have e:H0=hpL []:=rfl
 rw[e]
 refine zbg [] [] [((28015,g),U.map enc)] ?_ ?_ ?_ ?_ ?_<;>simp only[go_sem,ho]
 intro h
 rw[hn h];rfl
theorem zmZ {sid:Abs.Id}{uses a k:Int}{H:zas}{n:Nat}{R:D→zas→Nat→Prop}(ho:H sid=some ⟨[.fz (.i .i64 uses),.fz (.i .i64 a)],true,false⟩)(ha:0≤a∧a≤300)(hk:0≤k∧k≤1000000)
  (hR:R (.fz (.b (decide (300<a+k)))) (zaE H sid (some ⟨[.fz (.i .i64 uses),.fz (.i .i64 (a+k))],true,false⟩)) n):zau Tryz.prog GA 27 [.ptr sid 0,.fz (.i .i64 k)] H n R:=by
 refine zcq (T:=7) (xs:=[.i .i64 k]) (cs:=[.i .i64 uses,.i .i64 a]) (cs':=[.i .i64 uses,.i .i64 (a+k)]) rfl ?_ ho hR
 obtain⟨ha0,ha1⟩:=ha
 obtain⟨hk0,hk1⟩:=hk
 obtain⟨Q,hQ⟩:∃Q:D→zas→Nat→Prop,Q=(fun d H' _=>D.val d=some (.fz (.b (decide (300<a+k))))∧H' (7,0)=some ⟨[FD.i .i64 uses,.i .i64 (a+k)].map .fz,true,false⟩):=⟨_,rfl⟩
 rw[←hQ]
 refine zag (N:=18) hm hZ2 27000 (lst []) zLE Tryz.func27 rfl rfl (by simp) (by kernel_rfl) ?_
 repeat'(first|refine And.intro ?_ ?_|exact True.intro|refine rq fun _=>?_|refine rf fun _=>?_|simp only[go_sem,Tryz.f27,zn7])
 all_goals(
  rw[hQ]
  refine⟨?_,?_⟩
  ·simp only[go_sem]
  ·simp only[go_sem])
end Go.Proofs.YtkkffhphodngkaaGreatDoor
namespace Go.Proofs.YtkkffhphodngkaaGreatDoor
open Go Go.Abs Go.Proofs
theorem zvc {k g:Nat}{S:List (List Str)}(h:S.length≤k):zbi k g S=zad (S.map enc):=by
 rw[zbc]
 unfold zbi
 apply List.ext_getElem (by simp)
 intro j h1 h2
 have hj:j<S.length:=by simpa using h1
 simp only[List.getElem_mapIdx,List.getElem_map]
 rw[if_neg (by omega)]
 rfl
theorem zCd {b:Brn}{fs:List Abs.zab}{args:List D}{H:zas}{n:Nat}{R:D→zas→Nat→Prop}(hb:b.list.length≤100000∧b.used.length≤100000∧b.seen.length≤100000∧fs.length≤100000)(hs:∀s∈b.seen,s.length≤1000000)
  (ha:D.toFDs args=some [enc b,.sl (fs.map enc)])(hR:R (.fz (enc (zbX b fs))) H n):zau Tryz.prog GA 14 args H n R:=by
 have h:zau Tryz.prog GA 14 ([enc b,FD.sl (fs.map enc)].map .fz) H0 0 (fun d _ _=>D.val d=some (.fz (enc (zbX b fs)))):=by
  refine zaU (zIr (b.seen.length+fs.length) hb hs) ?_
  rintro d H n ⟨r,g,hr,hg,rfl,ho,_⟩
  have hlen:(b.seen++List.replicate fs.length ([]:List Str)).length=b.seen.length+fs.length:=by simp
  rw[zvc (by rw[hlen];exact Nat.le_refl _)]at ho
  obtain⟨S,hS⟩:∃S,b.seen++List.replicate fs.length ([]:List Str)=S:=⟨_,rfl⟩
  have e1:enc (zbX b fs)= .agg [.sl ((b.list++fs).map enc),.sl ((b.used++List.replicate fs.length false).map enc),.sl (S.map enc),.i .i64 b.rounds]:=by rw[←hS];rfl
  rw[hS]at ho hlen
  refine⟨.agg [.fz (.sl ((b.list++fs).map enc)),.fz (.sl ((b.used++List.replicate fs.length false).map enc)),.fz (.sl (S.map enc)),.fz (.i .i64 b.rounds)],hpL [],n,?_,by rw[e1];rfl⟩
  refine zbg [] [] [((14043,r),S.map enc)] ?_ ?_ ?_ ?_ ?_<;>simp only[go_sem,ho]
  all_goals first|done|rfl|omega|(intro h;rw[List.isEmpty_iff.1 h];rfl)
 exact zaG (zjx ha h) (by rintro d H' n' ⟨rfl,rfl,rfl⟩;exact hR)
theorem zvd {k g n:Nat}{S:List (List Str)}:zqD n (zbi k g S)=zbi k (g+n) S:=by
 rw[zeK]
 unfold zbi
 apply List.ext_getElem (by simp)
 intro j h1 h2
 simp only[List.getElem_map,List.getElem_mapIdx]
 split<;>rfl
theorem zKE (k:Nat){b:Brn}{fs:List Abs.zab}{args:List D}{H:zas}{n:Nat}{R:D→zas→Nat→Prop}(hb:b.list.length≤100000∧b.used.length≤100000∧b.seen.length≤100000∧fs.length≤100000)(hs:∀s∈b.seen,s.length≤1000000)
  (ha:D.toFDs args=some [enc b,.sl (fs.map enc)])
  (hR:∀r g n',n≤r→r<n'→n≤g→g<n'→R (D.agg [.fz (.sl ((b.list++fs).map enc)),.fz (.sl ((b.used++List.replicate fs.length false).map enc)),.arr (14043,r) 1 0 (b.seen.length+fs.length),.fz (.i .i64 b.rounds)]) (hpX [((14043,r),some ⟨zbi k g (b.seen++List.replicate fs.length []),false,(b.seen++List.replicate fs.length []).isEmpty⟩),((33007,g),some tok)] H) n'):zau Tryz.prog GA 14 args H n R:=by
 have h:=zIr k hb hs
 refine zcQ h.1 fun hfr=>zaU (zeU ha h) ?_
 rintro d H' n' ⟨d1,H1,n1,⟨r,g,hr,hg,rfl,ho,ho2⟩,rfl,rfl,rfl⟩
 have hsh:shH n H H1 (14043,r+n)=some ⟨zbi k (g+n) (b.seen++List.replicate fs.length []),false,(b.seen++List.replicate fs.length []).isEmpty⟩:=by
  unfold shH
  rw[if_pos (by simp),show(14043,r+n-n)=(14043,r) by rw[Nat.add_sub_cancel],ho]
  simp only[Option.map_some,shO,zvd]
 have hsh2:shH n H H1 (33007,g+n)=some tok:=by
  unfold shH
  rw[if_pos (by simp),show(33007,g+n-n)=(33007,g) by rw[Nat.add_sub_cancel],ho2]
  rfl
 refine⟨D.agg [.fz (.sl ((b.list++fs).map enc)),.fz (.sl ((b.used++List.replicate fs.length false).map enc)),.arr (14043,r+n) 1 0 (b.seen.length+fs.length),.fz (.i .i64 b.rounds)],hpX [((14043,r+n),some ⟨zbi k (g+n) (b.seen++List.replicate fs.length []),false,(b.seen++List.replicate fs.length []).isEmpty⟩),((33007,g+n),some tok)] H,n+n1,zbS ?_ (fun id o hid=>?_) (Nat.le_refl _),hR (r+n) (g+n) (n+n1) (by omega) (by omega) (by omega) (by omega)⟩
 ·exact⟨rfl,trivial⟩
 ·simp only[hpX]at hid
  split at hid
  ·rename_i e;subst e;rw[←hid];exact hsh
  split at hid
  ·rename_i e;subst e;rw[←hid];exact hsh2
  ·have hlt:id.2<n:=by
    rcases Nat.lt_or_ge id.2 n with h3|h3
    ·exact h3
    ·rw[hfr id h3]at hid;cases hid
   show shH n H H1 id=some o
   unfold shH
   rw[if_neg (by omega)]
   exact hid
def Z3:Tbl:=Z2.add 23 (zFD zgM fun l=>(∀f∈l,brF f)∧l.length≤100000)
attribute [go_sem] Z3
theorem zmk {c:List za3}{l:List Abs.zab}{i k:Nat}(h:i<l.length):zde c l (l.drop i) k=match zcb c l l[i] k with|some p=>some p|none=>zde c l (l.drop (i+1)) (k+1):=by
 rw[List.drop_eq_getElem_cons h,zde]
 cases zcb c l l[i] k<;>rfl
theorem zoN {p:Abs.zab→Bool}{l:List Abs.zab}{i k:Nat}(h:i<l.length):zeO p (l.drop i) k=if p l[i]then some k else zeO p (l.drop (i+1)) (k+1):=by
 rw[List.drop_eq_getElem_cons h,zeO]
theorem zhq {l:List Abs.zab}{p:Prf}(h:zcF l=some p):zgM l=(p,true):=by unfold zgM;rw[h]
theorem zhp {l:List Abs.zab}(h:zcF l=none):zgM l=(zbU,false):=by unfold zgM;rw[h]
def zlI:Tv:=(.q 0 (.q 1 (.q 2 (.q 3 (.q 4 (.q 5 (.q 6 .leaf)))))))
set_option maxHeartbeats 4000000 in
theorem hZ3:zan Tryz.prog GA Z3:=by
 refine zAM zJK hZ2 fun l hp _=>?_
 obtain⟨hbr,hl⟩:=hp
 obtain⟨cw,cl⟩:=zyB l
 obtain⟨C,hC⟩:∃C,zfE l=C:=⟨_,rfl⟩
 have hM:zde C l (l.drop 0) 0=zcF l:=by rw[←hC];rfl
 rw[hC]at cw cl
 have hpl:(∀f∈l,brF f)∧l.length≤100000:=⟨hbr,hl⟩
 obtain⟨V,hV⟩:∃V,zgM l=V:=⟨_,rfl⟩
 obtain⟨M,hMM⟩:∃M,zcF l=M:=⟨_,rfl⟩
 have hVs:∀p,M=some p→V=(p,true):=fun p h=>by rw[←hV,zhq (hMM.trans h)]
 have hVn:M=none→V=(zbU,false):=fun h=>by rw[←hV,zhp (hMM.trans h)]
 rw[hMM]at hM
 rw[hV]
 have kb:=Kp.mk hbr
 have kp:=Kp.mk hpl
 have kC:=Kp.mk cw
 have ks:=Kp.mk hVs
 have kn:=Kp.mk hVn
 clear hbr hpl cw hVs hVn
 refine zag (N:=55) hm hZ2 23000 (lst [1000011]) zJK Tryz.func23 rfl rfl (by simp) (by kernel_rfl) ?_
 repeat'(first|refine zaJ.i kp.out fun _=>?_|refine And.intro ?_ ?_|exact True.intro|refine rq fun _=>?_|refine rf fun _=>?_|simp only[go_sem,hC,zac,Tryz.f23])
 refine zaq hm hZ2 23000 (lst [1000011]) (ι:=zd7 l.length 1 fun i=>zde C l (l.drop i) i=M)
  ⟨fun q=>⟨frL [(0,.fz (.sl (l.map enc))),(2,.ptr (23002,0) 0),(3,.fz (.b false)),(4,.fz (.sl (C.map enc))),(11,.fz (.sl (l.map enc))),(12,.fz (.i .i64 l.length)),(13,.fz (.i .i64 q.i))],hpL [((23002,0),some ⟨[.fz (.i .i64 0),.fz (.i .i64 0),.fz (.i .i64 0),.fz (.s []),.full []],true,false⟩)],q.m⟩,fun q=>l.length-q.i⟩
  ⟨0,1,by omega,by omega,hM⟩ (by kernel_rfl) ?_ ?_
 ·refine zaj ?_ ?_ ?_<;>simp only[go_sem,hC]
  all_goals first|done|rfl|omega
 rintro⟨i,m,hi,hm1,hq⟩
 try simp only at hi hm1 hq
 rcases Nat.lt_or_ge i l.length with h1|h1
 ·obtain⟨f,hf⟩:∃f,l[i]=f:=⟨_,rfl⟩
  have hfb:brF f:=kb.out f (by rw[←hf];exact List.getElem_mem h1)
  rw[zmk h1,hf]at hq
  have hcon:ztD C f:=⟨⟨kC.out,by omega⟩,hfb⟩
  obtain⟨B,hB⟩:∃B,zlU C f=B:=⟨_,rfl⟩
  by_cases hv:B=true
  ·have hI:zcb C l f i=some (.mk 1 i i ⟨[]⟩ []):=by unfold zcb;rw[if_pos (by rw[hB];exact hv)]
   rw[hI]at hq
   have e:=ks.out _ hq.symm
   rw[e]
   repeat'(first|refine zaJ.i hcon fun _=>?_|refine And.intro ?_ ?_|exact True.intro|refine rq fun _=>?_|refine rf fun _=>?_|simp only[go_sem,h1,hf,hB,hv,zaa,zac,Tryz.f23])
   all_goals trace_state
  have hv:B=false:=by simpa using hv
  by_cases k4:f.kind=4
  rotate_left
  ·have hI:zcb C l f i=none:=by unfold zcb;rw[hB,hv,if_neg (by simp),if_neg (by omega)]
   rw[hI]at hq
   repeat'(first|refine zaJ.i hcon fun _=>?_|refine And.intro ?_ ?_|exact True.intro|refine rq fun _=>?_|refine rf fun _=>?_|simp only[go_sem,h1,hf,hB,hv,k4,zaa,zac,Tryz.f23])
   all_goals refine⟨⟨i+1,m+1,by omega,by omega,hq⟩,by simp only;omega,?_⟩
   all_goals refine zaj ?_ ?_ ?_<;>simp only[go_sem]
   all_goals first|done|rfl|omega
  obtain⟨g,hg,s0,hbg⟩:=zcr hfb (.inl k4)
  have eF:Abs.zab.mk 4 f.name f.words [g]=f:=by rw[←k4,←hg];exact zac
  by_cases k2:g.kind=2
  rotate_left
  ·have hI:zcb C l f i=none:=by unfold zcb;rw[hB,hv,if_neg (by simp),if_neg (by rw[s0];omega)]
   rw[hI]at hq
   repeat'(first|refine zaJ.i hcon fun _=>?_|refine And.intro ?_ ?_|exact True.intro|refine rq fun _=>?_|refine rf fun _=>?_|simp only[go_sem,h1,hf,hB,hv,k4,eF,hg,k2,zaa,zac,Tryz.f23])
   all_goals refine⟨⟨i+1,m+1,by omega,by omega,hq⟩,by simp only;omega,?_⟩
   all_goals refine zaj ?_ ?_ ?_<;>simp only[go_sem]
   all_goals first|done|rfl|omega
  have eG:Abs.zab.mk 2 g.name g.words g.subs=g:=by rw[←k2];exact zac
  obtain⟨W,hW⟩:∃W,zeO (fun h=>zeu C h g) (l.drop 0) 0=W:=⟨_,rfl⟩
  have hI:zcb C l f i=W.map fun(k:Nat)=>Prf.mk 1 (k:Int) i ⟨[]⟩ []:=by
   unfold zcb
   rw[hB,hv,if_neg (by simp),if_pos ⟨k4,by rw[s0];exact k2⟩,s0,←hW,List.drop_zero]
  rw[hI]at hq
  repeat'(first|refine zaJ.i hcon fun _=>?_|refine And.intro ?_ ?_|exact True.intro|refine rq fun _=>?_|refine rf fun _=>?_|simp only[go_sem,h1,hf,hB,hv,k4,eF,hg,k2,eG,zaa,zac,Tryz.f23])
  refine zaq hm hZ2 23000 (lst [1000011]) (ι:=zd7 l.length (m+1) fun k=>zeO (fun h=>zeu C h g) (l.drop k) k=W)
   ⟨fun q=>⟨frL [(0,.fz (.sl (l.map enc))),(2,.ptr (23002,0) 0),(3,.fz (.b false)),(4,.fz (.sl (C.map enc))),(5,.fz (.i .i64 i)),(6,.ptr (23006,m) 0),(11,.fz (.sl (l.map enc))),(12,.fz (.i .i64 l.length)),(13,.fz (.i .i64 i)),(35,.fz (.sl (l.map enc))),(36,.fz (.i .i64 l.length)),(37,.fz (.i .i64 q.i))],
    hpL [((23002,0),some ⟨[.fz (.i .i64 0),.fz (.i .i64 0),.fz (.i .i64 0),.fz (.s []),.full []],true,false⟩),((23006,m),some ⟨[.fz (.i .i64 4),.fz (.s f.name.l),.fz (.sl (f.words.map enc)),.fz (.sl [enc g])],true,false⟩)],q.m⟩,fun q=>l.length-q.i⟩
   ⟨0,m+1,by omega,by omega,hW⟩ (by kernel_rfl) ?_ ?_
  ·refine zaj ?_ ?_ ?_<;>simp only[go_sem,k2]
   all_goals first|done|rfl|omega
  rintro⟨k,m2,hk,hm3,hr⟩
  try simp only at hk hm3 hr
  rcases Nat.lt_or_ge k l.length with h2|h2
  ·obtain⟨x,hx⟩:∃x,l[k]=x:=⟨_,rfl⟩
   have hxb:brF x:=kb.out x (by rw[←hx];exact List.getElem_mem h2)
   have hal:(wfC C∧C.length≤1000000)∧x.fit=true:=⟨⟨kC.out,by omega⟩,hxb.ft⟩
   rw[zoN h2,hx]at hr
   obtain⟨E,hE⟩:∃E,zeu C x g=E:=⟨_,rfl⟩
   by_cases hv2:E=true
   ·rw[if_pos (hE.trans hv2)]at hr
    rw[←hr]at hq
    have e:=ks.out _ hq.symm
    rw[e]
    repeat'(first|refine zaJ.i hal fun _=>?_|refine zaC (id:=11) hm hZ2 23000 (lst [1000011]) zlI (by kernel_rfl) (by kernel_rfl) ?_|refine And.intro ?_ ?_|exact True.intro|refine rq fun _=>?_|refine rf fun _=>?_|simp only[go_sem,h2,hx,hE,hv2,hg,eG,zlI,zaa,zac,Tryz.f23])
    all_goals trace_state
   ·have hv2:E=false:=by simpa using hv2
    rw[if_neg (by rw[hE,hv2];simp)]at hr
    repeat'(first|refine zaJ.i hal fun _=>?_|refine zaC (id:=11) hm hZ2 23000 (lst [1000011]) zlI (by kernel_rfl) (by kernel_rfl) ?_|refine And.intro ?_ ?_|exact True.intro|refine rq fun _=>?_|refine rf fun _=>?_|simp only[go_sem,h2,hx,hE,hv2,hg,eG,zlI,zaa,zac,Tryz.f23])
    all_goals refine⟨⟨k+1,m2+1,by omega,by omega,hr⟩,by simp only;omega,?_⟩
    all_goals refine zaj ?_ ?_ ?_<;>simp only[go_sem]
    all_goals first|done|rfl|omega
  ·have hWn:W=none:=by
    rw[←hr,List.drop_eq_nil_of_le h2];rfl
   rw[hWn]at hq
   obtain rfl:k=l.length:=by omega
   repeat'(first|refine And.intro ?_ ?_|exact True.intro|refine rq fun _=>?_|refine rf fun _=>?_|simp only[go_sem,Nat.lt_irrefl,zaa,zac,Tryz.f23])
   all_goals refine⟨⟨i+1,m2,by omega,by omega,hq⟩,by simp only;omega,?_⟩
   all_goals refine zaj ?_ ?_ ?_<;>simp only[go_sem]
   all_goals first|done|rfl|omega
 ·have hMn:M=none:=by
   rw[←hq,List.drop_eq_nil_of_le h1];rfl
  have e:=kn.out hMn
  obtain rfl:i=l.length:=by omega
  rw[e]
  repeat'(first|refine And.intro ?_ ?_|exact True.intro|refine rq fun _=>?_|refine rf fun _=>?_|simp only[go_sem,zbU,Nat.lt_irrefl,zaa,zac,Tryz.f23])
  all_goals trace_state
end Go.Proofs.YtkkffhphodngkaaGreatDoor
