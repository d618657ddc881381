/- several texts of this proof in one; no conditions -/
import Derived.Test.YtdlioodgfopmfaaGreatDoorAT
import Derived.Test.YtdlioodgfopmfaaGreatDoorZQ141Q1238
import Derived.Test.YtdlioodgfopmfaaGreatDoorY9
import Derived.Test.YtdlioodgfopmfaaGreatDoorY7
import Derived.Test.YtdlioodgfopmfaaGreatDoorPX
import Derived.Test.YtdlioodgfopmfaaGreatDoorQ142
set_option maxRecDepth 100000
set_option maxHeartbeats 1000000
set_option linter.unusedSimpArgs false
namespace Go.Proofs.YtdlioodgfopmfaaGreatDoor
open Go Go.Abs Go.Proofs
section
variable {P:Program} {G:Nat→List FD}
theorem zfi {f:FuncId}{args:List D}{xs ys:List FD}{H:zaw}{n t es:Nat}{R:D→zaw→Nat→Prop}(ha:D.toFDs args=some xs)
  (h:zaA P G f (xs.map .fz) H0 0 (fun d H1 n1=>∃g,g<n1∧d= .ow (t,g) es ys∧H1 (t,g)=some tok))(hR:∀g n',n≤g→g<n'→R (.ow (t,g) es ys) (hpX [((t,g),some tok)] H) n'):zaA P G f args H n R:=by
 refine zdp h.1 fun hfr=>zbb (zfV ha h) ?_
 rintro d H' n' ⟨d1,H1,n1,⟨g,hg,rfl,ho⟩,rfl,rfl,rfl⟩
 have hsh:shH n H H1 (t,g+n)=some tok:=by
  unfold shH
  rw[if_pos (by simp),show(t,g+n-n)=(t,g) by rw[Nat.add_sub_cancel],ho]
  rfl
 refine⟨.ow (t,g+n) es ys,hpX [((t,g+n),some tok)] H,n+n1,zcB ?_ (fun id o hid=>?_) (Nat.le_refl _),hR (g+n) (n+n1) (by omega) (by omega)⟩
 ·exact⟨rfl,trivial⟩
 ·simp only[hpX]at hid
  split at hid
  ·rename_i e;subst e;rw[←hid];exact hsh
  ·have hlt:id.2<n:=by
    rcases Nat.lt_or_ge id.2 n with h3|h3
    ·exact h3
    ·rw[hfr id h3]at hid;cases hid
   show shH n H H1 id=some o
   unfold shH
   rw[if_neg (by omega)]
   exact hid
theorem zd6 {f:FuncId}{args:List D}{xs cs:List FD}{H:zaw}{n t es len:Nat}{v:Bool}{R:D→zaw→Nat→Prop}(ha:D.toFDs args=some xs)
  (h:zaA P G f (xs.map .fz) H0 0 (fun d H1 n1=>∃g,g<n1∧d= .arr (t,g) es 0 len∧H1 (t,g)=some ⟨cs.map .fz,false,v⟩))(hR:∀g n',n≤g→g<n'→R (.arr (t,g) es 0 len) (hpX [((t,g),some ⟨cs.map .fz,false,v⟩)] H) n'):zaA P G f args H n R:=by
 refine zdp h.1 fun hfr=>zbb (zfV ha h) ?_
 rintro d H' n' ⟨d1,H1,n1,⟨g,hg,rfl,ho⟩,rfl,rfl,rfl⟩
 have hm:∀l:List FD,zpA n (l.map .fz)=l.map .fz:=fun l=>by
  rw[zeE,List.map_map]
  exact List.map_congr_left fun x _=>rfl
 have hsh:shH n H H1 (t,g+n)=some ⟨cs.map .fz,false,v⟩:=by
  unfold shH
  rw[if_pos (by simp),show(t,g+n-n)=(t,g) by rw[Nat.add_sub_cancel],ho]
  simp only[Option.map_some,shO,hm]
 refine⟨.arr (t,g+n) es 0 len,hpX [((t,g+n),some ⟨cs.map .fz,false,v⟩)] H,n+n1,zcB ?_ (fun id o hid=>?_) (Nat.le_refl _),hR (g+n) (n+n1) (by omega) (by omega)⟩
 ·exact⟨rfl,trivial⟩
 ·simp only[hpX]at hid
  split at hid
  ·rename_i e;subst e;rw[←hid];exact hsh
  ·have hlt:id.2<n:=by
    rcases Nat.lt_or_ge id.2 n with h3|h3
    ·exact h3
    ·rw[hfr id h3]at hid;cases hid
   show shH n H H1 id=some o
   unfold shH
   rw[if_neg (by omega)]
   exact hid
end
theorem zx9 {l:List Abs.zac}(hl:l.length≤1000000):zaA Tryz.prog GA 42 [.fz (.sl (l.map enc))] H0 0 (fun d H n=>∃g,g<n∧d= .ow (42007,g) 4 (l.map enc)∧H (42007,g)=some tok):=by
 rw[zeK]
 obtain⟨Q,hQ⟩:∃Q:D→zaw→Nat→Prop,Q=(fun d H n=>(d= .full []∧l=[]∧n=0∧H=hpL [])∨∃g,g<n∧d= .ow (42007,g) 4 (l.map enc)∧H (42007,g)=some tok):=⟨_,rfl⟩
 have key:zaA Tryz.prog GA 42 [.fz (.sl (l.map enc))] (hpL []) 0 Q:=by
  refine zah (N:=8) hm hY9 42000 (lsw [7] []) zIM Tryz.func42 rfl rfl (by simp) (by kernel_rfl) ?_
  simp only[go_sem]
  refine zrA.i fun b hb=>?_
  cases b
  ·repeat'(first|refine And.intro ?_ ?_|exact True.intro|refine rq fun _=>?_|refine rf fun _=>?_|simp only[go_sem,Tryz.f42])
   rw[hQ]
   exact .inr ⟨0,by omega,by simp only[go_sem],by simp only[go_sem]⟩
  ·have:l=[]:=List.eq_nil_of_length_eq_zero (hb rfl)
   subst this
   repeat'(first|refine And.intro ?_ ?_|exact True.intro|refine rq fun _=>?_|refine rf fun _=>?_|simp only[go_sem,Tryz.f42])
   rw[hQ]
   exact .inl ⟨rfl,rfl,rfl,rfl⟩
 refine zbb key ?_
 rw[hQ]
 rintro d H n (⟨rfl,rfl,rfl,rfl⟩|⟨g,hg,rfl,ho⟩)
 ·refine⟨.ow (42007,0) 4 [],hpL [((42007,0),some tok)],1,?_,0,by omega,rfl,by simp only[go_sem]⟩
  refine zbl [] [(42007,0)] [] ?_ ?_ ?_ ?_ ?_<;>simp only[go_sem]
  all_goals first|done|rfl
 ·exact⟨_,H,n,zcB ⟨rfl,trivial⟩ (fun _ _ h=>h) (Nat.le_refl _),g,hg,rfl,ho⟩
theorem zx8 {l:List Bool}(hl:l.length≤1000000):zaA Tryz.prog GA 36 [.fz (.sl (l.map enc))] H0 0 (fun d H n=>∃g,g<n∧d= .ow (36007,g) 1 (l.map enc)∧H (36007,g)=some tok):=by
 rw[zeK]
 obtain⟨Q,hQ⟩:∃Q:D→zaw→Nat→Prop,Q=(fun d H n=>(d= .full []∧l=[]∧n=0∧H=hpL [])∨∃g,g<n∧d= .ow (36007,g) 1 (l.map enc)∧H (36007,g)=some tok):=⟨_,rfl⟩
 have key:zaA Tryz.prog GA 36 [.fz (.sl (l.map enc))] (hpL []) 0 Q:=by
  refine zah (N:=8) hm hY9 36000 (lsw [7] []) zHp Tryz.func36 rfl rfl (by simp) (by kernel_rfl) ?_
  simp only[go_sem]
  refine zrA.i fun b hb=>?_
  cases b
  ·repeat'(first|refine And.intro ?_ ?_|exact True.intro|refine rq fun _=>?_|refine rf fun _=>?_|simp only[go_sem,Tryz.f36])
   rw[hQ]
   exact .inr ⟨0,by omega,by simp only[go_sem],by simp only[go_sem]⟩
  ·have:l=[]:=List.eq_nil_of_length_eq_zero (hb rfl)
   subst this
   repeat'(first|refine And.intro ?_ ?_|exact True.intro|refine rq fun _=>?_|refine rf fun _=>?_|simp only[go_sem,Tryz.f36])
   rw[hQ]
   exact .inl ⟨rfl,rfl,rfl,rfl⟩
 refine zbb key ?_
 rw[hQ]
 rintro d H n (⟨rfl,rfl,rfl,rfl⟩|⟨g,hg,rfl,ho⟩)
 ·refine⟨.ow (36007,0) 1 [],hpL [((36007,0),some tok)],1,?_,0,by omega,rfl,by simp only[go_sem]⟩
  refine zbl [] [(36007,0)] [] ?_ ?_ ?_ ?_ ?_<;>simp only[go_sem]
  all_goals first|done|rfl
 ·exact⟨_,H,n,zcB ⟨rfl,trivial⟩ (fun _ _ h=>h) (Nat.le_refl _),g,hg,rfl,ho⟩
theorem zsn {l:List Str}(hl:l.length≤1000000):zaA Tryz.prog GA 43 [.fz (.sl (l.map enc))] H0 0 (fun d H n=>∃g,g<n∧d= .ow (43007,g) 1 (l.map enc)∧H (43007,g)=some tok):=by
 rw[zeK]
 obtain⟨Q,hQ⟩:∃Q:D→zaw→Nat→Prop,Q=(fun d H n=>(d= .full []∧l=[]∧n=0∧H=hpL [])∨∃g,g<n∧d= .ow (43007,g) 1 (l.map enc)∧H (43007,g)=some tok):=⟨_,rfl⟩
 have key:zaA Tryz.prog GA 43 [.fz (.sl (l.map enc))] (hpL []) 0 Q:=by
  refine zah (N:=8) hm hY9 43000 (lsw [7] []) zFI Tryz.func43 rfl rfl (by simp) (by kernel_rfl) ?_
  simp only[go_sem]
  refine zrA.i fun b hb=>?_
  cases b
  ·repeat'(first|refine And.intro ?_ ?_|exact True.intro|refine rq fun _=>?_|refine rf fun _=>?_|simp only[go_sem,Tryz.f43])
   rw[hQ]
   exact .inr ⟨0,by omega,by simp only[go_sem],by simp only[go_sem]⟩
  ·have:l=[]:=List.eq_nil_of_length_eq_zero (hb rfl)
   subst this
   repeat'(first|refine And.intro ?_ ?_|exact True.intro|refine rq fun _=>?_|refine rf fun _=>?_|simp only[go_sem,Tryz.f43])
   rw[hQ]
   exact .inl ⟨rfl,rfl,rfl,rfl⟩
 refine zbb key ?_
 rw[hQ]
 rintro d H n (⟨rfl,rfl,rfl,rfl⟩|⟨g,hg,rfl,ho⟩)
 ·refine⟨.ow (43007,0) 1 [],hpL [((43007,0),some tok)],1,?_,0,by omega,rfl,by simp only[go_sem]⟩
  refine zbl [] [(43007,0)] [] ?_ ?_ ?_ ?_ ?_<;>simp only[go_sem]
  all_goals first|done|rfl
 ·exact⟨_,H,n,zcB ⟨rfl,trivial⟩ (fun _ _ h=>h) (Nat.le_refl _),g,hg,rfl,ho⟩
theorem zir {l:List Bool}(hl:l.length≤1000000):zaA Tryz.prog GA 36 [.fz (.sl (l.map enc))] H0 0 (fun d H n=>∃g,g<n∧d= .arr (36007,g) 1 0 l.length∧H (36007,g)=some ⟨(l.map enc).map .fz,false,l.isEmpty⟩):=by
 rw[zeK]
 have hfl:zaf (l.map enc)=(l.map enc).map .fz:=by
  unfold zaf
  rw[List.map_map,List.flatMap_map]
  induction l with
  |nil=>rfl
  |cons x l ih=>rw[List.flatMap_cons,List.map_cons,ih (by simp at hl;omega)];rfl
 obtain⟨Q,hQ⟩:∃Q:D→zaw→Nat→Prop,Q=(fun d H n=>(d= .full []∧l=[]∧n=0∧H=hpL [])∨∃g,g<n∧d= .arr (36007,g) 1 0 l.length∧H (36007,g)=some ⟨(l.map enc).map .fz,false,l.isEmpty⟩):=⟨_,rfl⟩
 have key:zaA Tryz.prog GA 36 [.fz (.sl (l.map enc))] (hpL []) 0 Q:=by
  refine zah (N:=8) hm hY9 36000 (lst [7]) zHp Tryz.func36 rfl rfl (by simp) (by kernel_rfl) ?_
  simp only[go_sem]
  refine zrA.i fun b hb=>?_
  cases b
  ·repeat'(first|refine And.intro ?_ ?_|exact True.intro|refine rq fun _=>?_|refine rf fun _=>?_|simp only[go_sem,Tryz.f36])
   rw[hQ]
   refine .inr ⟨0,by omega,by simp only[go_sem],?_⟩
   simp only[go_sem,←hfl]
   all_goals trace_state
  ·have:l=[]:=List.eq_nil_of_length_eq_zero (hb rfl)
   subst this
   repeat'(first|refine And.intro ?_ ?_|exact True.intro|refine rq fun _=>?_|refine rf fun _=>?_|simp only[go_sem,Tryz.f36])
   rw[hQ]
   exact .inl ⟨rfl,rfl,rfl,rfl⟩
 refine zbb key ?_
 rw[hQ]
 rintro d H n (⟨rfl,rfl,rfl,rfl⟩|⟨g,hg,rfl,ho⟩)
 ·refine⟨.arr (36007,0) 1 0 0,hpL [((36007,0),some ⟨[],false,true⟩)],1,?_,0,by omega,rfl,by simp only[go_sem]⟩
  refine zbl [] [(36007,0)] [] ?_ ?_ ?_ ?_ ?_<;>simp only[go_sem]
  all_goals first|done|rfl
 ·exact⟨_,H,n,zcB ⟨rfl,trivial⟩ (fun _ _ h=>h) (Nat.le_refl _),g,hg,rfl,ho⟩
end Go.Proofs.YtdlioodgfopmfaaGreatDoor
namespace Go.Proofs.YtdlioodgfopmfaaGreatDoor
open Go Go.Abs Go.Proofs
theorem zrs:zap Tryz.prog GA znB:=fun f t xs r c h _ _=>by cases h
def zbq (k g:Nat)(S:List (List Str)):List D:=S.mapIdx fun j x=>if j=k then .ow (43007,g) 1 (x.map enc)else .fz (.sl (x.map enc))
theorem zaV {k g:Nat}{S:List (List Str)}:(zbq k g S).length=S.length:=by simp[zbq]
theorem zj2 {k g:Nat}{S:List (List Str)}{x:List Str}:zbq k g (S++[x])=zbq k g S++[if S.length=k then .ow (43007,g) 1 (x.map enc)else .fz (.sl (x.map enc))]:=by
 unfold zbq;rw[List.mapIdx_concat]
theorem zwz {k g g2:Nat}{S:List (List Str)}(h:S.length≤k):zbq k g S=zbq k g2 S:=by
 unfold zbq
 apply List.ext_getElem (by simp)
 intro j h1 h2
 have hj:j<S.length:=by simpa using h1
 simp only[List.getElem_mapIdx]
 rw[if_neg (by omega),if_neg (by omega)]
theorem zej {k g j:Nat}{S:List (List Str)}(h:j<S.length):(zbq k g S).getD j .junk=if j=k then .ow (43007,g) 1 (S[j].map enc)else .fz (.sl (S[j].map enc)):=by
 unfold zbq
 rw[List.getD_eq_getElem?_getD,List.getElem?_eq_getElem (by simpa using h),Option.getD_some,List.getElem_mapIdx]
theorem zlz {te:TI}{d:D}{n:Nat}(h:te.size=1)(hz:te.zero=[d]):zkg te n=List.replicate n d:=by
 unfold zkg
 rw[h,hz,Nat.mul_one]
 apply List.ext_getElem (by simp)
 intro j h1 h2
 simp[Nat.mod_one]
theorem zmr {n:Nat}:zaf ((List.replicate n false).map enc)=List.replicate n (D.fz (.b false)):=by
 induction n with
 |zero=>rfl
 |succ n ih=>
  rw[List.replicate_succ,List.map_cons,List.replicate_succ,←ih]
  rfl
instance:Kc Bool 1:=⟨fun _=>rfl⟩
theorem zsD {n n':Nat}{pre:Abs.Id→Abs.Id}{vn:Abs.Id→Bool}{z:Abs.Id→Option (List FD)}{H:zaw}{k g j:Nat}{x:List Str}(hg:g<n'):
  Dr n n' pre vn z H (if j=k then .ow (43007,g) 1 (x.map enc)else .fz (.sl (x.map enc))) (if j=k then .ow (43007,g) 1 (x.map enc)else .fz (.sl (x.map enc))):=by
 split
 ·rw[zI0,zB7];exact⟨rfl,rfl,hg⟩
 ·rw[zHP]
theorem zo9 {n n':Nat}{pre:Abs.Id→Abs.Id}{vn:Abs.Id→Bool}{z:Abs.Id→Option (List FD)}{H:zaw}{k g:Nat}{S:List (List Str)}{d d':D}(hg:g<n')(hd:Dr n n' pre vn z H d d'):
  Drs n n' pre vn z H (zbq k g S++[d]) (zbq k g S++[d']):=by
 refine zrL (by simp) fun j hj=>?_
 simp only[List.length_append,zaV,List.length_cons,List.length_nil]at hj
 rcases Nat.lt_or_ge j S.length with h|h
 ·rw[zaW (by rw[zaV];exact h),zaW (by rw[zaV];exact h),zej h]
  exact zsD hg
 ·obtain rfl:j=S.length:=by omega
  rw[zaX (by rw[zaV];exact h),zaX (by rw[zaV];exact h),zaV,Nat.sub_self]
  exact hd
theorem zsF {n n':Nat}{pre:Abs.Id→Abs.Id}{vn:Abs.Id→Bool}{z:Abs.Id→Option (List FD)}{H:zaw}{k g m:Nat}{S:List (List Str)}(hg:g<n'):
  Drs n n' pre vn z H (zbq k g S++List.replicate m (.full [])) (zbq k g (S++List.replicate m [])):=by
 refine zrL (by simp[zaV]) fun j hj=>?_
 rw[zaV]at hj
 rw[zej hj]
 rw[List.length_append,List.length_replicate]at hj
 rcases Nat.lt_or_ge j S.length with h|h
 ·rw[zaW (by rw[zaV];exact h),zej h,List.getElem_append_left h]
  exact zsD hg
 ·rw[zaX (by rw[zaV];exact h),zaV,List.getElem_append_right h]
  simp only[List.getElem_replicate,List.map_nil]
  rw[List.getD_eq_getElem?_getD,List.getElem?_replicate_of_lt (by omega),Option.getD_some]
  split
  ·rw[zwr];exact⟨rfl,hg⟩
  ·rw[zB6]
theorem zkW {α:Type}{A:List α}{x:α}:(A++[x]).isEmpty=false:=by cases A<;>rfl
structure zAn (n n0:Nat) where
 i:Nat
 r:Nat
 g:Nat
 m:Nat
 hi:i≤n
 hr:r<m
 hg:g<m
 hm:n0≤m
def zpK:Tv:=(.q 0 (.q 2 (.br [(1,(.br [(3,(.br [(4,(.br [(5,(.q 6 (.br [(7,.leaf)])))]))]))])),(3,(.br [(1,(.br [(4,(.br [(5,(.q 6 (.br [(7,.leaf)])))]))])),(4,(.q 1 (.br [(5,(.q 6 (.br [(7,.leaf)])))])))]))])))
set_option maxHeartbeats 4000000 in
theorem zF6 (k:Nat){b:Brn}{fs:List Abs.zac}(hb:b.list.length≤100000∧b.used.length≤100000∧b.seen.length≤100000∧fs.length≤100000)(hs:∀s∈b.seen,s.length≤1000000):
  zaA Tryz.prog GA 13 [.fz (enc b),.fz (.sl (fs.map enc))] (hpL []) 0 (fun d H n=>∃r g,r<n∧g<n∧d= .agg [.fz (.sl ((b.list++fs).map enc)),.fz (.sl ((b.used++List.replicate fs.length false).map enc)),.arr (13043,r) 1 0 (b.seen.length+fs.length),.fz (.i .i64 b.rounds)]∧
   H (13043,r)=some ⟨zbq k g (b.seen++List.replicate fs.length []),false,(b.seen++List.replicate fs.length []).isEmpty⟩∧H (43007,g)=some tok):=by
 obtain⟨hb1,hb2,hb3,hb4⟩:=hb
 obtain⟨Q,hQ⟩:∃Q:D→zaw→Nat→Prop,Q=(fun d H n=>∃r g,r<n∧g<n∧d= .agg [.fz (.sl ((b.list++fs).map enc)),.fz (.sl ((b.used++List.replicate fs.length false).map enc)),.arr (13043,r) 1 0 (b.seen.length+fs.length),.fz (.i .i64 b.rounds)]∧
   H (13043,r)=some ⟨zbq k g b.seen++List.replicate fs.length (D.full []),false,b.seen.isEmpty&&(zbq k g b.seen++List.replicate fs.length (D.full [])).isEmpty⟩∧H (43007,g)=some tok):=⟨_,rfl⟩
 suffices hkey:zaA Tryz.prog GA 13 [.fz (enc b),.fz (.sl (fs.map enc))] (hpL []) 0 Q by
  refine zbb hkey ?_
  rw[hQ]
  rintro d H n ⟨r,g,hr,hg,rfl,ho,hg2⟩
  have hve:(b.seen++List.replicate fs.length []).isEmpty=(b.seen.isEmpty&&(zbq k g b.seen++List.replicate fs.length (D.full [])).isEmpty):=by
   rw[Bool.eq_iff_iff]
   simp only[List.isEmpty_iff,Bool.and_eq_true,List.append_eq_nil_iff]
   constructor
   ·rintro⟨h1,h2⟩
    refine⟨h1,⟨by rw[h1];rfl,?_⟩⟩
    rw[List.replicate_eq_nil_iff]at h2 ⊢
    exact h2
   ·rintro⟨h1,_,h2⟩
    refine⟨h1,?_⟩
    rw[List.replicate_eq_nil_iff]at h2 ⊢
    exact h2
  refine⟨_,hpL [((13043,r),some ⟨zbq k g (b.seen++List.replicate fs.length []),false,(b.seen++List.replicate fs.length []).isEmpty⟩),((43007,g),some tok)],n,?_,r,g,hr,hg,rfl,by simp only[go_sem],by simp only[go_sem]⟩
  refine zbl [] [] [] ?_ ?_ ?_ ?_ ?_<;>simp only[go_sem,ho,hg2,hve]
  all_goals repeat'(first|refine And.intro ?_ ?_|omega|rfl|exact zsF hg|simp only[go_sem])
  all_goals trace_state
 have kq:=Kp.mk hQ
 have ks:=Kp.mk hs
 clear hQ hs
 refine zu4 (N:=46) hm zrs 13000 (lsw [15] [35,36,1000003,1000007,1000009]) zIJ Tryz.func13 rfl rfl (by simp) (by kernel_rfl) ?_
 repeat'(first|refine And.intro ?_ ?_|exact True.intro|refine rq fun _=>?_|refine rf fun _=>?_|simp only[go_sem,zax,Tryz.f13,znB])
 refine zaI.i (zfi (xs:=[FD.sl (b.list.map enc)]) rfl (zx9 (l:=b.list) (by omega)) fun g1 n1 hg1 hn1=>?_)
 repeat'(first|refine And.intro ?_ ?_|exact True.intro|refine rq fun _=>?_|refine rf fun _=>?_|simp only[go_sem,zax,Tryz.f13,znB])
 refine zjt (rid:=3) zrs 13000 (lsw [15] [35,36,1000003,1000007,1000009]) 5 rfl rfl rfl rfl rfl rfl rfl ?_
 repeat'(first|refine And.intro ?_ ?_|exact True.intro|refine rq fun _=>?_|refine rf fun _=>?_|simp only[go_sem,zax,Tryz.f13,znB])
 refine zaI.i (zfi (xs:=[FD.sl (b.used.map enc)]) rfl (zx8 (l:=b.used) (by omega)) fun g2 n2 hg2 hn2=>?_)
 repeat'(first|refine And.intro ?_ ?_|exact True.intro|refine rq fun _=>?_|refine rf fun _=>?_|simp only[go_sem,zax,Tryz.f13,znB])
 refine zlD.ow (kk:= .i64) ((List.replicate fs.length false).map enc) (te:=⟨1,1,[.fz (.b false)],.bool,false,false,[]⟩) (by simp only[go_sem]) Tryz.underlying3 (by omega) rfl rfl (by omega) (by simp) (by rw[zlz rfl rfl,Int.toNat_natCast];exact zmr) (o:=⟨[],false,true⟩) (by simp only[go_sem]) (zdW _) (zdW _) (by rw[zmr];simp[zcL]) (by rw[Int.toNat_natCast];exact zat (by rw[List.length_map];omega) (by decide)) ?_
 repeat'(first|refine And.intro ?_ ?_|exact True.intro|refine rq fun _=>?_|refine rf fun _=>?_|simp only[go_sem,zax,Tryz.f13,znB])
 refine zfg hm zrs 13000 (lsw [15] [35,36,1000003,1000007,1000009]) (ι:=zAn b.seen.length (n2+3))
  ⟨fun q=>⟨frL [(1,.fz (.sl (fs.map enc))),(2,.ptr (13002,0) 0),(4,.ptr (13004,1) 0),(5,.ptr (13005,2) 0),(25,.fz (.sl (b.seen.map enc))),(26,.fz (.i .i64 b.seen.length)),(27,.fz (.i .i64 q.i))],
   hpL [((13002,0),some ⟨[.fz (.sl (b.list.map enc)),.fz (.sl (b.used.map enc)),.fz (.sl (b.seen.map enc)),.fz (.i .i64 b.rounds)],true,false⟩),((13004,1),some ⟨[.full [],.full [],.full [],.fz (.i .i64 0)],true,false⟩),
    ((13005,2),some ⟨[.fz (.sl ((b.list++fs).map enc)),.fz (.sl ((b.used++List.replicate fs.length false).map enc)),.arr (13036,q.r) 1 0 q.i,.fz (.i .i64 b.rounds)],true,false⟩),
    ((13036,q.r),some ⟨zbq k q.g (b.seen.take q.i),false,(b.seen.take q.i).isEmpty⟩),((43007,q.g),some tok)],q.m⟩,fun q=>b.seen.length-q.i⟩
  ⟨0,n2+1,n2+2,n2+3,by omega,by omega,by omega,by omega⟩ (by kernel_rfl) ?_ ?_
 ·refine zbl [] [(13036,n2+1),(43007,n2+2)] [] ?_ ?_ ?_ ?_ ?_<;>simp only[go_sem,List.map_append,zbq]
  all_goals first|done|rfl|omega|(refine⟨by omega,by omega,⟨by omega,by omega⟩,⟨by omega,rfl⟩,by omega,by omega⟩)
 rintro⟨i,r,g,m,hi,hr,hg,hm2⟩
 try simp only at hi hr hg hm2
 rcases Nat.lt_or_ge i b.seen.length with h1|h1
 ·obtain⟨s,hx⟩:∃s,b.seen[i]=s:=⟨_,rfl⟩
  have hsl:s.length≤1000000:=ks.out s (by rw[←hx];exact List.getElem_mem h1)
  have e3:=List.take_succ_eq_append_getElem h1
  rw[hx]at e3
  have htl:(b.seen.take i).length=i:=by rw[List.length_take];omega
  have hts:(zbq k g (b.seen.take i)).take i=zbq k g (b.seen.take i):=List.take_of_length_le (by rw[zaV,htl];exact Nat.le_refl _)
  by_cases hik:i=k
  ·have hif:(i=k)=True:=eq_true hik
   repeat'(first|refine zaI.i (zfi (xs:=[FD.sl (s.map enc)]) rfl (zsn (l:=s) (by omega)) fun g3 m3 hg3 hm3=>?_)|refine zae (id:=7) hm zrs 13000 (lsw [15] [35,36,1000003,1000007,1000009]) zpK (by kernel_rfl) (by kernel_rfl) ?_|refine And.intro ?_ ?_|exact True.intro|refine rq fun _=>?_|refine rf fun _=>?_|simp only[go_sem,hts,h1,hx,zpK,zaV,htl,zaa,zax,Tryz.f13,znB])
   all_goals
    have hsw:zbq k g (b.seen.take i)=zbq k g3 (b.seen.take i):=zwz (by rw[htl];omega)
    refine⟨⟨i+1,m3+1,g3,m3+2,by omega,by omega,by omega,by omega⟩,by simp only;omega,?_⟩
    refine zbl [] [] [] ?_ ?_ ?_ ?_ ?_<;>simp only[go_sem,e3,hsw,zj2,htl,hif,List.map_append,zkW]
   all_goals repeat'(first|refine And.intro ?_ ?_|omega|rfl|(refine zo9 (by omega) ?_)|simp only[go_sem])
   all_goals trace_state
  ·have hif:(i=k)=False:=eq_false hik
   repeat'(first|refine zaI.i (zfi (xs:=[FD.sl (s.map enc)]) rfl (zsn (l:=s) (by omega)) fun g3 m3 hg3 hm3=>?_)|refine zae (id:=7) hm zrs 13000 (lsw [15] [35,36,1000003,1000007,1000009]) zpK (by kernel_rfl) (by kernel_rfl) ?_|refine And.intro ?_ ?_|exact True.intro|refine rq fun _=>?_|refine rf fun _=>?_|simp only[go_sem,hts,h1,hx,zpK,zaV,htl,zaa,zax,Tryz.f13,znB])
   all_goals
    have hgg:(g=g3)=False:=eq_false (by omega)
    refine⟨⟨i+1,m3+1,g,m3+2,by omega,by omega,by omega,by omega⟩,by simp only;omega,?_⟩
    refine zbl [] [] [] ?_ ?_ ?_ ?_ ?_<;>simp only[go_sem,e3,zj2,htl,hif,hgg,List.map_append,zkW]
   all_goals repeat'(first|refine And.intro ?_ ?_|omega|rfl|(refine zo9 (by omega) ?_)|simp only[go_sem])
   all_goals trace_state
 ·obtain rfl:i=b.seen.length:=by omega
  have htl:(b.seen.take b.seen.length)=b.seen:=List.take_length
  have hts:(zbq k g b.seen).take b.seen.length=zbq k g b.seen:=List.take_of_length_le (by rw[zaV];exact Nat.le_refl _)
  repeat'(first|refine And.intro ?_ ?_|exact True.intro|refine rq fun _=>?_|refine rf fun _=>?_|simp only[go_sem,htl,Nat.lt_irrefl,hts,zaV,zax,Tryz.f13,znB])
  refine zjt (rid:=9) zrs 13000 (lsw [15] [35,36,1000003,1000007,1000009]) 4 rfl rfl rfl rfl rfl rfl rfl ?_
  repeat'(first|refine And.intro ?_ ?_|exact True.intro|refine rq fun _=>?_|refine rf fun _=>?_|simp only[go_sem,htl,Nat.lt_irrefl,hts,zaV,zax,Tryz.f13,znB])
  refine zlD.arr (kk:= .i64) (te:=⟨1,24,[.full []],.slice 9,false,false,[]⟩) (by simp only[go_sem]) Tryz.underlying3 (by omega) rfl rfl (by omega) (o:=⟨zbq k g b.seen,false,b.seen.isEmpty⟩) (by simp only[go_sem,htl]) (by simp[zaV]) (by rw[zlz rfl rfl];simp[zcL]) (by decide) (by rw[Int.toNat_natCast];exact zat (by omega) (by decide)) ?_
  have hz:zkg ⟨1,24,[.full []],.slice 9,false,false,[]⟩ fs.length=List.replicate fs.length (D.full []):=zlz rfl rfl
  repeat'(first|refine And.intro ?_ ?_|exact True.intro|refine rq fun _=>?_|refine rf fun _=>?_|simp only[go_sem,hz,htl,Nat.lt_irrefl,hts,zaV,Int.toNat_natCast,Nat.mul_one,List.drop_zero,zax,Tryz.f13,znB])
  rw[kq.out]
  refine⟨m,g,by omega,by omega,?_,?_,?_⟩
  ·simp only[go_sem,List.map_append]
  ·simp only[go_sem]
  ·simp only[go_sem]
end Go.Proofs.YtdlioodgfopmfaaGreatDoor
namespace Go.Proofs.YtdlioodgfopmfaaGreatDoor
open Go Go.Abs Go.Proofs
def Z1:Tbl:=Y9.add 34 (sp1 (fun f=>(zag f).1) brF)
attribute [go_sem] Z1
set_option maxHeartbeats 4000000 in
theorem hZ1:zap Tryz.prog GA Z1:=by
 refine zbM zFG hY9 fun f hbr _=>?_
 have hkb:=zbf.1 hbr.v
 have hk1:=hkb.1
 have hk2:=hkb.2.1
 clear hkb
 by_cases k4:f.kind=4
 ·obtain⟨g,hg,s0,hbg⟩:=zdd hbr (.inl k4)
  have hgk:=zbf.1 hbg.v
  have hg1:=hgk.1
  have hg2:=hgk.2.1
  clear hgk
  have hcase:g.kind=1∨g.kind=2∨g.kind=3∨g.kind=4∨g.kind=5∨g.kind=6∨g.kind=7∨g.kind=8∨g.kind=9:=by omega
  rcases hcase with j|j|j|j|j|j|j|j|j
  all_goals
   have e:=zq1 k4 s0 j
   try simp only at e
   rw[e]
   refine zah (N:=32) hm hY9 34000 (lst []) zFG Tryz.func34 rfl rfl (by simp) (by kernel_rfl) ?_
   repeat'(first|refine And.intro ?_ ?_|exact True.intro|refine rq fun _=>?_|refine rf fun _=>?_|simp only[go_sem,k4,hg,j,zaa,zab,Tryz.f34])
 ·have hcase:f.kind=1∨f.kind=2∨f.kind=3∨f.kind=5∨f.kind=6∨f.kind=7∨f.kind=8∨f.kind=9:=by omega
  rcases hcase with j|j|j|j|j|j|j|j
  all_goals
   have e:=zoq k4 j
   try simp only at e
   rw[e]
   refine zah (N:=32) hm hY9 34000 (lst []) zFG Tryz.func34 rfl rfl (by simp) (by kernel_rfl) ?_
   repeat'(first|refine And.intro ?_ ?_|exact True.intro|refine rq fun _=>?_|refine rf fun _=>?_|simp only[go_sem,j,zaa,zab,Tryz.f34])
theorem zvX {B U:List Str}:(B.isEmpty&&U.isEmpty)=(B.isEmpty&&(zaf (B.map enc++U.map enc)).isEmpty):=by
 rw[←List.map_append,zaQ]
 cases B<;>cases U<;>rfl
theorem ziP (l:List Abs.zac):za6 l=zfL (zeO (l.flatMap zba)):=by
 unfold za6 zfL zeO;rw[zhV]
theorem zpP {f:Abs.zac}(h:brF f):(zba f).length≤1000000:=by
 rw[zpO]
 have h1:=zeV h.ft []
 have hs:=h.s
 have h2:(zfL (zeO (cst f []))).length≤(zeO (cst f [])).length:=by
  unfold zfL
  rw[List.length_map]
  have:=zd9 ((zeO (cst f [])).map (·.l))
  rw[List.length_map]at this
  exact this
 rw[ze8]at h2
 omega
set_option maxHeartbeats 4000000 in
theorem zBT {l:List Abs.zac}(hbr:∀f∈l,brF f)(hl:l.length≤100000):zaA Tryz.prog GA 38 [.fz (enc l)] (hpL []) 0
  (fun d H n=>∃g,g<n∧d= .arr (38015,g) 1 0 (za6 l).length∧H (38015,g)=some ⟨zaf ((za6 l).map enc),false,(l.flatMap zba).isEmpty⟩):=by
 obtain⟨Q,hQ⟩:∃Q:D→zaw→Nat→Prop,Q=(fun d H n=>∃g,g<n∧d= .arr (38015,g) 1 0 (za6 l).length∧H (38015,g)=some ⟨zaf ((za6 l).map enc),false,(l.flatMap zba).isEmpty⟩):=⟨_,rfl⟩
 rw[←hQ]
 obtain⟨A,hA⟩:∃A:Nat→List Str,A=fun i=>(l.take i).flatMap zba:=⟨_,rfl⟩
 have hA0:A 0=[]:=by rw[hA];rfl
 have hAs:∀i (h:i<l.length),A (i+1)=A i++zba l[i]:=fun i h=>by
  rw[hA];simp only
  rw[List.take_succ_eq_append_getElem h,List.flatMap_append,List.flatMap_cons,List.flatMap_nil,List.append_nil]
 have hAe:A l.length=l.flatMap zba:=by rw[hA];simp only[List.take_length]
 rw[ziP,←hAe]at hQ
 have kb:=Kp.mk hbr
 have kA:=Kp.mk hAs
 have kq:=Kp.mk hQ
 clear hbr hA hAs hAe hQ
 refine zah (N:=21) hm hZ1 38000 (lst [15]) zHq Tryz.func38 rfl rfl (by simp) (by kernel_rfl) ?_
 repeat'(first|refine And.intro ?_ ?_|exact True.intro|refine rq fun _=>?_|refine rf fun _=>?_|simp only[go_sem,Tryz.f38])
 refine zao hm hZ1 38000 (lst [15]) (ι:=zkj l.length 1 fun i=>(A i).length≤i*1000000)
  ⟨fun q=>⟨frL [(3,.arr (38015,q.g) 1 0 (A q.i).length),(6,.fz (.sl (l.map enc))),(7,.fz (.i .i64 l.length)),(8,.fz (.i .i64 q.i))],hpL [((38015,q.g),some ⟨zaf ((A q.i).map enc),false,(A q.i).isEmpty⟩)],q.m⟩,fun q=>l.length-q.i⟩
  ⟨0,0,1,by omega,by omega,by omega,by rw[hA0];simp⟩ (by kernel_rfl) ?_ ?_
 ·refine zbl [] [(38015,0)] [] ?_ ?_ ?_ ?_ ?_<;>simp only[go_sem,hA0]
  all_goals first|done|rfl|omega
 rintro⟨i,g,m,hi,hg,hm2,hp⟩
 try simp only at hi hg hm2 hp
 rcases Nat.lt_or_ge i l.length with h1|h1
 ·obtain⟨x,hx⟩:∃x,l[i]=x:=⟨_,rfl⟩
  have hxb:brF x:=kb.out x (by rw[←hx];exact List.getElem_mem h1)
  have hs:=kA.out i h1
  rw[hx]at hs
  have hul:=zpP hxb
  obtain⟨U,hU⟩:∃U,zba x=U:=⟨_,rfl⟩
  rw[hU]at hs hul
  obtain⟨B,hB⟩:∃B,A i=B:=⟨_,rfl⟩
  rw[hB]at hs hp
  have hft:fits (B.length+U.length) 16:=⟨by unfold zbp;omega,by omega⟩
  repeat'(first|refine zaj.i hxb fun _=>?_|refine zaj.i hft fun _=>?_|refine zaj.i (by simp only[List.length_map];exact hft) fun _=>?_|refine And.intro ?_ ?_|exact True.intro|refine rq fun _=>?_|refine rf fun _=>?_|simp only[go_sem,h1,hx,hU,hB,zaa,zab,zad,Tryz.f38])
  all_goals refine⟨⟨i+1,m+1,m+2,by omega,by omega,by omega,by rw[hs,List.length_append];omega⟩,by simp only;omega,?_⟩
  all_goals refine zbl [] [] [] ?_ ?_ ?_ ?_ ?_<;>simp only[go_sem,hs,List.map_append,List.length_append]
  all_goals first|done|rfl|omega|exact⟨by omega,zvX⟩
 ·obtain rfl:i=l.length:=by omega
  obtain⟨B,hB⟩:∃B,A l.length=B:=⟨_,rfl⟩
  repeat'(first|refine And.intro ?_ ?_|exact True.intro|refine rq fun _=>?_|refine rf fun _=>?_|simp only[go_sem,hB,Nat.lt_irrefl,zab,zad,Tryz.f38])
  refine zaI.i (zpB (l:=B) (bx:=false) (vt:=B.isEmpty) (by simp only[go_sem,hB]) ?_)
  have b1:=ze8 B
  repeat'(first|refine And.intro ?_ ?_|exact True.intro|refine rq fun _=>?_|refine rf fun _=>?_|simp only[go_sem,hB,Nat.lt_irrefl,zab,zad,Tryz.f38])
  rw[←ze8 B]
  refine zaI.i (zo4 (l:=zeO B) (bx:=false) (vt:=B.isEmpty) (by simp only[go_sem]) ?_)
  repeat'(first|refine And.intro ?_ ?_|exact True.intro|refine rq fun _=>?_|refine rf fun _=>?_|simp only[go_sem,hB,Nat.lt_irrefl,zab,zad,Tryz.f38])
  rw[kq.out,hB]
  exact⟨g,by omega,by simp only[go_sem],by simp only[go_sem]⟩
def Z2:Tbl:=Z1.add 38 (sp1 za6 fun l=>(∀f∈l,brF f)∧l.length≤100000)
attribute [go_sem] Z2
theorem hZ2:zap Tryz.prog GA Z2:=by
 refine zbM zHq hZ1 fun l hp hw=>?_
 refine zbb (zBT hp.1 hp.2) ?_
 rintro d H n ⟨g,hg,rfl,ho⟩
 have hn:(l.flatMap zba).isEmpty=true→za6 l=[]:=fun h=>by
  rw[ziP,List.isEmpty_iff.1 h]
  cases hu:zfL (zeO [])with
  |nil=>rfl
  |cons x t=>
   have:x∈zfL (zeO []):=by rw[hu];simp
   unfold zfL zeO at this
   rw[zhV]at this
   obtain⟨y,hy,rfl⟩:=List.mem_map.1 this
   have h2:=(zgm _ _).1 hy
   have h3:=(zcT _).mem_iff.1 h2
   simp at h3
 obtain⟨U,hU⟩:∃U,za6 l=U:=⟨_,rfl⟩
 rw[hU]at ho hn ⊢
 refine⟨.fz (.sl (U.map enc)),H0,n,?_,rfl⟩
 have e:H0=hpL []:=rfl
 rw[e]
 refine zbl [] [] [((38015,g),U.map enc)] ?_ ?_ ?_ ?_ ?_<;>simp only[go_sem,ho]
 intro h
 rw[hn h];rfl
theorem zmy {sid:Abs.Id}{uses a k:Int}{H:zaw}{n:Nat}{R:D→zaw→Nat→Prop}(ho:H sid=some ⟨[.fz (.i .i64 uses),.fz (.i .i64 a)],true,false⟩)(ha:0≤a∧a≤300)(hk:0≤k∧k≤1000000)
  (hR:R (.fz (.b (decide (300<a+k)))) (zaK H sid (some ⟨[.fz (.i .i64 uses),.fz (.i .i64 (a+k))],true,false⟩)) n):zaA Tryz.prog GA 37 [.ptr sid 0,.fz (.i .i64 k)] H n R:=by
 refine zcv (T:=7) (xs:=[.i .i64 k]) (cs:=[.i .i64 uses,.i .i64 a]) (cs':=[.i .i64 uses,.i .i64 (a+k)]) rfl ?_ ho hR
 obtain⟨ha0,ha1⟩:=ha
 obtain⟨hk0,hk1⟩:=hk
 obtain⟨Q,hQ⟩:∃Q:D→zaw→Nat→Prop,Q=(fun d H' _=>D.val d=some (.fz (.b (decide (300<a+k))))∧H' (7,0)=some ⟨[FD.i .i64 uses,.i .i64 (a+k)].map .fz,true,false⟩):=⟨_,rfl⟩
 rw[←hQ]
 refine zah (N:=18) hm hZ2 37000 (lst []) zIL Tryz.func37 rfl rfl (by simp) (by kernel_rfl) ?_
 repeat'(first|refine And.intro ?_ ?_|exact True.intro|refine rq fun _=>?_|refine rf fun _=>?_|simp only[go_sem,Tryz.f37,znB])
 all_goals(
  rw[hQ]
  refine⟨?_,?_⟩
  ·simp only[go_sem]
  ·simp only[go_sem])
end Go.Proofs.YtdlioodgfopmfaaGreatDoor
namespace Go.Proofs.YtdlioodgfopmfaaGreatDoor
open Go Go.Abs Go.Proofs
theorem ztV {k g:Nat}{S:List (List Str)}(h:S.length≤k):zbq k g S=zaf (S.map enc):=by
 rw[zaQ]
 unfold zbq
 apply List.ext_getElem (by simp)
 intro j h1 h2
 have hj:j<S.length:=by simpa using h1
 simp only[List.getElem_mapIdx,List.getElem_map]
 rw[if_neg (by omega)]
 rfl
theorem zAz {b:Brn}{fs:List Abs.zac}{args:List D}{H:zaw}{n:Nat}{R:D→zaw→Nat→Prop}(hb:b.list.length≤100000∧b.used.length≤100000∧b.seen.length≤100000∧fs.length≤100000)(hs:∀s∈b.seen,s.length≤1000000)
  (ha:D.toFDs args=some [enc b,.sl (fs.map enc)])(hR:R (.fz (enc (zbS b fs))) H n):zaA Tryz.prog GA 13 args H n R:=by
 have h:zaA Tryz.prog GA 13 ([enc b,FD.sl (fs.map enc)].map .fz) H0 0 (fun d _ _=>D.val d=some (.fz (enc (zbS b fs)))):=by
  refine zbb (zF6 (b.seen.length+fs.length) hb hs) ?_
  rintro d H n ⟨r,g,hr,hg,rfl,ho,_⟩
  have hlen:(b.seen++List.replicate fs.length ([]:List Str)).length=b.seen.length+fs.length:=by simp
  rw[ztV (by rw[hlen];exact Nat.le_refl _)]at ho
  obtain⟨S,hS⟩:∃S,b.seen++List.replicate fs.length ([]:List Str)=S:=⟨_,rfl⟩
  have e1:enc (zbS b fs)= .agg [.sl ((b.list++fs).map enc),.sl ((b.used++List.replicate fs.length false).map enc),.sl (S.map enc),.i .i64 b.rounds]:=by rw[←hS];rfl
  rw[hS]at ho hlen
  refine⟨.agg [.fz (.sl ((b.list++fs).map enc)),.fz (.sl ((b.used++List.replicate fs.length false).map enc)),.fz (.sl (S.map enc)),.fz (.i .i64 b.rounds)],hpL [],n,?_,by rw[e1];rfl⟩
  refine zbl [] [] [((13043,r),S.map enc)] ?_ ?_ ?_ ?_ ?_<;>simp only[go_sem,ho]
  all_goals first|done|rfl|omega|(intro h;rw[List.isEmpty_iff.1 h];rfl)
 exact zbc (zju ha h) (by rintro d H' n' ⟨rfl,rfl,rfl⟩;exact hR)
theorem ztX {k g n:Nat}{S:List (List Str)}:zpA n (zbq k g S)=zbq k (g+n) S:=by
 rw[zeE]
 unfold zbq
 apply List.ext_getElem (by simp)
 intro j h1 h2
 simp only[List.getElem_map,List.getElem_mapIdx]
 split<;>rfl
theorem zH7 (k:Nat){b:Brn}{fs:List Abs.zac}{args:List D}{H:zaw}{n:Nat}{R:D→zaw→Nat→Prop}(hb:b.list.length≤100000∧b.used.length≤100000∧b.seen.length≤100000∧fs.length≤100000)(hs:∀s∈b.seen,s.length≤1000000)
  (ha:D.toFDs args=some [enc b,.sl (fs.map enc)])
  (hR:∀r g n',n≤r→r<n'→n≤g→g<n'→R (D.agg [.fz (.sl ((b.list++fs).map enc)),.fz (.sl ((b.used++List.replicate fs.length false).map enc)),.arr (13043,r) 1 0 (b.seen.length+fs.length),.fz (.i .i64 b.rounds)]) (hpX [((13043,r),some ⟨zbq k g (b.seen++List.replicate fs.length []),false,(b.seen++List.replicate fs.length []).isEmpty⟩),((43007,g),some tok)] H) n'):zaA Tryz.prog GA 13 args H n R:=by
 have h:=zF6 k hb hs
 refine zdp h.1 fun hfr=>zbb (zfV ha h) ?_
 rintro d H' n' ⟨d1,H1,n1,⟨r,g,hr,hg,rfl,ho,ho2⟩,rfl,rfl,rfl⟩
 have hsh:shH n H H1 (13043,r+n)=some ⟨zbq k (g+n) (b.seen++List.replicate fs.length []),false,(b.seen++List.replicate fs.length []).isEmpty⟩:=by
  unfold shH
  rw[if_pos (by simp),show(13043,r+n-n)=(13043,r) by rw[Nat.add_sub_cancel],ho]
  simp only[Option.map_some,shO,ztX]
 have hsh2:shH n H H1 (43007,g+n)=some tok:=by
  unfold shH
  rw[if_pos (by simp),show(43007,g+n-n)=(43007,g) by rw[Nat.add_sub_cancel],ho2]
  rfl
 refine⟨D.agg [.fz (.sl ((b.list++fs).map enc)),.fz (.sl ((b.used++List.replicate fs.length false).map enc)),.arr (13043,r+n) 1 0 (b.seen.length+fs.length),.fz (.i .i64 b.rounds)],hpX [((13043,r+n),some ⟨zbq k (g+n) (b.seen++List.replicate fs.length []),false,(b.seen++List.replicate fs.length []).isEmpty⟩),((43007,g+n),some tok)] H,n+n1,zcB ?_ (fun id o hid=>?_) (Nat.le_refl _),hR (r+n) (g+n) (n+n1) (by omega) (by omega) (by omega) (by omega)⟩
 ·exact⟨rfl,trivial⟩
 ·simp only[hpX]at hid
  split at hid
  ·rename_i e;subst e;rw[←hid];exact hsh
  split at hid
  ·rename_i e;subst e;rw[←hid];exact hsh2
  ·have hlt:id.2<n:=by
    rcases Nat.lt_or_ge id.2 n with h3|h3
    ·exact h3
    ·rw[hfr id h3]at hid;cases hid
   show shH n H H1 id=some o
   unfold shH
   rw[if_neg (by omega)]
   exact hid
def Z3:Tbl:=Z2.add 33 (zCd zgP fun l=>(∀f∈l,brF f)∧l.length≤100000)
attribute [go_sem] Z3
theorem zlW {c:List zaR}{l:List Abs.zac}{i k:Nat}(h:i<l.length):zc5 c l (l.drop i) k=match zb1 c l l[i] k with|some p=>some p|none=>zc5 c l (l.drop (i+1)) (k+1):=by
 rw[List.drop_eq_getElem_cons h,zc5]
 cases zb1 c l l[i] k<;>rfl
theorem zoa {p:Abs.zac→Bool}{l:List Abs.zac}{i k:Nat}(h:i<l.length):zeI p (l.drop i) k=if p l[i]then some k else zeI p (l.drop (i+1)) (k+1):=by
 rw[List.drop_eq_getElem_cons h,zeI]
theorem zhr {l:List Abs.zac}{p:Prf}(h:zcD l=some p):zgP l=(p,true):=by unfold zgP;rw[h]
theorem zhq {l:List Abs.zac}(h:zcD l=none):zgP l=(zbK,false):=by unfold zgP;rw[h]
def zlr:Tv:=(.q 0 (.q 1 (.q 2 (.q 3 (.q 4 (.q 5 (.q 6 .leaf)))))))
set_option maxHeartbeats 4000000 in
theorem hZ3:zap Tryz.prog GA Z3:=by
 refine zt1 zHo hZ2 fun l hp _=>?_
 obtain⟨hbr,hl⟩:=hp
 obtain⟨cw,cl⟩:=zw7 l
 obtain⟨C,hC⟩:∃C,zeM l=C:=⟨_,rfl⟩
 have hM:zc5 C l (l.drop 0) 0=zcD l:=by rw[←hC];rfl
 rw[hC]at cw cl
 have hpl:(∀f∈l,brF f)∧l.length≤100000:=⟨hbr,hl⟩
 obtain⟨V,hV⟩:∃V,zgP l=V:=⟨_,rfl⟩
 obtain⟨M,hMM⟩:∃M,zcD l=M:=⟨_,rfl⟩
 have hVs:∀p,M=some p→V=(p,true):=fun p h=>by rw[←hV,zhr (hMM.trans h)]
 have hVn:M=none→V=(zbK,false):=fun h=>by rw[←hV,zhq (hMM.trans h)]
 rw[hMM]at hM
 rw[hV]
 have kb:=Kp.mk hbr
 have kp:=Kp.mk hpl
 have kC:=Kp.mk cw
 have ks:=Kp.mk hVs
 have kn:=Kp.mk hVn
 clear hbr hpl cw hVs hVn
 refine zah (N:=55) hm hZ2 33000 (lst [1000011]) zHo Tryz.func33 rfl rfl (by simp) (by kernel_rfl) ?_
 repeat'(first|refine zaj.i kp.out fun _=>?_|refine And.intro ?_ ?_|exact True.intro|refine rq fun _=>?_|refine rf fun _=>?_|simp only[go_sem,hC,zab,Tryz.f33])
 refine zao hm hZ2 33000 (lst [1000011]) (ι:=zep l.length 1 fun i=>zc5 C l (l.drop i) i=M)
  ⟨fun q=>⟨frL [(0,.fz (.sl (l.map enc))),(2,.ptr (33002,0) 0),(3,.fz (.b false)),(4,.fz (.sl (C.map enc))),(11,.fz (.sl (l.map enc))),(12,.fz (.i .i64 l.length)),(13,.fz (.i .i64 q.i))],hpL [((33002,0),some ⟨[.fz (.i .i64 0),.fz (.i .i64 0),.fz (.i .i64 0),.fz (.s []),.full []],true,false⟩)],q.m⟩,fun q=>l.length-q.i⟩
  ⟨0,1,by omega,by omega,hM⟩ (by kernel_rfl) ?_ ?_
 ·refine zai ?_ ?_ ?_<;>simp only[go_sem,hC]
  all_goals first|done|rfl|omega
 rintro⟨i,m,hi,hm1,hq⟩
 try simp only at hi hm1 hq
 rcases Nat.lt_or_ge i l.length with h1|h1
 ·obtain⟨f,hf⟩:∃f,l[i]=f:=⟨_,rfl⟩
  have hfb:brF f:=kb.out f (by rw[←hf];exact List.getElem_mem h1)
  rw[zlW h1,hf]at hq
  have hcon:zsu C f:=⟨⟨kC.out,by omega⟩,hfb⟩
  obtain⟨B,hB⟩:∃B,zhG C f=B:=⟨_,rfl⟩
  by_cases hv:B=true
  ·have hI:zb1 C l f i=some (.mk 1 i i ⟨[]⟩ []):=by unfold zb1;rw[if_pos (by rw[hB];exact hv)]
   rw[hI]at hq
   have e:=ks.out _ hq.symm
   rw[e]
   repeat'(first|refine zaj.i hcon fun _=>?_|refine And.intro ?_ ?_|exact True.intro|refine rq fun _=>?_|refine rf fun _=>?_|simp only[go_sem,h1,hf,hB,hv,zaa,zab,Tryz.f33])
   all_goals trace_state
  have hv:B=false:=by simpa using hv
  by_cases k4:f.kind=4
  rotate_left
  ·have hI:zb1 C l f i=none:=by unfold zb1;rw[hB,hv,if_neg (by simp),if_neg (by omega)]
   rw[hI]at hq
   repeat'(first|refine zaj.i hcon fun _=>?_|refine And.intro ?_ ?_|exact True.intro|refine rq fun _=>?_|refine rf fun _=>?_|simp only[go_sem,h1,hf,hB,hv,k4,zaa,zab,Tryz.f33])
   all_goals refine⟨⟨i+1,m+1,by omega,by omega,hq⟩,by simp only;omega,?_⟩
   all_goals refine zai ?_ ?_ ?_<;>simp only[go_sem]
   all_goals first|done|rfl|omega
  obtain⟨g,hg,s0,hbg⟩:=zdd hfb (.inl k4)
  have eF:Abs.zac.mk 4 f.name f.words [g]=f:=by rw[←k4,←hg];exact zab
  by_cases k2:g.kind=2
  rotate_left
  ·have hI:zb1 C l f i=none:=by unfold zb1;rw[hB,hv,if_neg (by simp),if_neg (by rw[s0];omega)]
   rw[hI]at hq
   repeat'(first|refine zaj.i hcon fun _=>?_|refine And.intro ?_ ?_|exact True.intro|refine rq fun _=>?_|refine rf fun _=>?_|simp only[go_sem,h1,hf,hB,hv,k4,eF,hg,k2,zaa,zab,Tryz.f33])
   all_goals refine⟨⟨i+1,m+1,by omega,by omega,hq⟩,by simp only;omega,?_⟩
   all_goals refine zai ?_ ?_ ?_<;>simp only[go_sem]
   all_goals first|done|rfl|omega
  have eG:Abs.zac.mk 2 g.name g.words g.subs=g:=by rw[←k2];exact zab
  obtain⟨W,hW⟩:∃W,zeI (fun h=>zci C h g) (l.drop 0) 0=W:=⟨_,rfl⟩
  have hI:zb1 C l f i=W.map fun(k:Nat)=>Prf.mk 1 (k:Int) i ⟨[]⟩ []:=by
   unfold zb1
   rw[hB,hv,if_neg (by simp),if_pos ⟨k4,by rw[s0];exact k2⟩,s0,←hW,List.drop_zero]
  rw[hI]at hq
  repeat'(first|refine zaj.i hcon fun _=>?_|refine And.intro ?_ ?_|exact True.intro|refine rq fun _=>?_|refine rf fun _=>?_|simp only[go_sem,h1,hf,hB,hv,k4,eF,hg,k2,eG,zaa,zab,Tryz.f33])
  refine zao hm hZ2 33000 (lst [1000011]) (ι:=zep l.length (m+1) fun k=>zeI (fun h=>zci C h g) (l.drop k) k=W)
   ⟨fun q=>⟨frL [(0,.fz (.sl (l.map enc))),(2,.ptr (33002,0) 0),(3,.fz (.b false)),(4,.fz (.sl (C.map enc))),(5,.fz (.i .i64 i)),(6,.ptr (33006,m) 0),(11,.fz (.sl (l.map enc))),(12,.fz (.i .i64 l.length)),(13,.fz (.i .i64 i)),(35,.fz (.sl (l.map enc))),(36,.fz (.i .i64 l.length)),(37,.fz (.i .i64 q.i))],
    hpL [((33002,0),some ⟨[.fz (.i .i64 0),.fz (.i .i64 0),.fz (.i .i64 0),.fz (.s []),.full []],true,false⟩),((33006,m),some ⟨[.fz (.i .i64 4),.fz (.s f.name.l),.fz (.sl (f.words.map enc)),.fz (.sl [enc g])],true,false⟩)],q.m⟩,fun q=>l.length-q.i⟩
   ⟨0,m+1,by omega,by omega,hW⟩ (by kernel_rfl) ?_ ?_
  ·refine zai ?_ ?_ ?_<;>simp only[go_sem,k2]
   all_goals first|done|rfl|omega
  rintro⟨k,m2,hk,hm3,hr⟩
  try simp only at hk hm3 hr
  rcases Nat.lt_or_ge k l.length with h2|h2
  ·obtain⟨x,hx⟩:∃x,l[k]=x:=⟨_,rfl⟩
   have hxb:brF x:=kb.out x (by rw[←hx];exact List.getElem_mem h2)
   have hal:(wfC C∧C.length≤1000000)∧x.fit=true:=⟨⟨kC.out,by omega⟩,hxb.ft⟩
   rw[zoa h2,hx]at hr
   obtain⟨E,hE⟩:∃E,zci C x g=E:=⟨_,rfl⟩
   by_cases hv2:E=true
   ·rw[if_pos (hE.trans hv2)]at hr
    rw[←hr]at hq
    have e:=ks.out _ hq.symm
    rw[e]
    repeat'(first|refine zaj.i hal fun _=>?_|refine zae (id:=11) hm hZ2 33000 (lst [1000011]) zlr (by kernel_rfl) (by kernel_rfl) ?_|refine And.intro ?_ ?_|exact True.intro|refine rq fun _=>?_|refine rf fun _=>?_|simp only[go_sem,h2,hx,hE,hv2,hg,eG,zlr,zaa,zab,Tryz.f33])
    all_goals trace_state
   ·have hv2:E=false:=by simpa using hv2
    rw[if_neg (by rw[hE,hv2];simp)]at hr
    repeat'(first|refine zaj.i hal fun _=>?_|refine zae (id:=11) hm hZ2 33000 (lst [1000011]) zlr (by kernel_rfl) (by kernel_rfl) ?_|refine And.intro ?_ ?_|exact True.intro|refine rq fun _=>?_|refine rf fun _=>?_|simp only[go_sem,h2,hx,hE,hv2,hg,eG,zlr,zaa,zab,Tryz.f33])
    all_goals refine⟨⟨k+1,m2+1,by omega,by omega,hr⟩,by simp only;omega,?_⟩
    all_goals refine zai ?_ ?_ ?_<;>simp only[go_sem]
    all_goals first|done|rfl|omega
  ·have hWn:W=none:=by
    rw[←hr,List.drop_eq_nil_of_le h2];rfl
   rw[hWn]at hq
   obtain rfl:k=l.length:=by omega
   repeat'(first|refine And.intro ?_ ?_|exact True.intro|refine rq fun _=>?_|refine rf fun _=>?_|simp only[go_sem,Nat.lt_irrefl,zaa,zab,Tryz.f33])
   all_goals refine⟨⟨i+1,m2,by omega,by omega,hq⟩,by simp only;omega,?_⟩
   all_goals refine zai ?_ ?_ ?_<;>simp only[go_sem]
   all_goals first|done|rfl|omega
 ·have hMn:M=none:=by
   rw[←hq,List.drop_eq_nil_of_le h1];rfl
  have e:=kn.out hMn
  obtain rfl:i=l.length:=by omega
  rw[e]
  repeat'(first|refine And.intro ?_ ?_|exact True.intro|refine rq fun _=>?_|refine rf fun _=>?_|simp only[go_sem,zbK,Nat.lt_irrefl,zaa,zab,Tryz.f33])
  all_goals trace_state
end Go.Proofs.YtdlioodgfopmfaaGreatDoor
namespace Go.Proofs.YtdlioodgfopmfaaGreatDoor
open Go Go.Abs Go.Proofs
def zuw:Tv:=(.q 0 (.q 1 (.q 2 (.q 3 (.q 4 (.q 5 (.q 6 (.br [(7,(.br [(8,(.q 9 (.q 10 (.q 11 (.q 12 (.br [(13,(.br [(14,(.q 15 (.q 16 .leaf)))]))])))))),(13,(.br [(8,(.q 9 (.q 10 (.q 11 (.q 12 (.br [(14,(.q 15 (.q 16 .leaf)))]))))))]))])),(13,(.br [(7,(.br [(8,(.q 9 (.q 10 (.q 11 (.q 12 (.br [(14,(.q 15 (.q 16 .leaf)))]))))))]))]))]))))))))
def zlu:Tv:=(.q 0 (.q 1 (.q 2 (.q 3 (.q 4 (.q 5 (.q 6 .leaf)))))))
def zux:Tv:=(.q 0 (.q 2 (.q 3 (.q 4 (.q 5 (.q 6 (.q 7 (.q 8 (.q 9 (.br [(1,(.br [(10,(.q 11 (.br [(12,.leaf)])))])),(10,(.q 1 (.q 11 (.br [(12,.leaf)]))))]))))))))))
def zuy:Tv:=(.q 0 (.q 1 (.q 2 (.q 3 (.q 4 (.q 5 (.br [(6,(.br [(7,.leaf)]))])))))))
theorem zvL {l:List Abs.zac}(h:∀f∈l,brF f):(l.flatMap zba).length≤l.length*1000000:=by
 induction l with
 |nil=>simp
 |cons x l ih=>
  rw[List.flatMap_cons,List.length_append,List.length_cons,Nat.succ_mul]
  have h1:=zpP (h x (by simp))
  have h2:=ih fun f hf=>h f (by simp[hf])
  omega
theorem zmT {l:List Abs.zac}(h:∀f∈l,brF f):(za6 l).length≤l.length*1000000:=by
 rw[ziP]
 have h1:=zvL h
 have h2:(zfL (zeO (l.flatMap zba))).length≤(zeO (l.flatMap zba)).length:=by
  unfold zfL
  rw[List.length_map]
  have:=zd9 ((zeO (l.flatMap zba)).map (·.l))
  rw[List.length_map]at this
  exact this
 rw[ze8]at h2
 omega
theorem zpI:∀xs:List FD,D.toFDs (xs.map .fz)=some xs
 |[]=>rfl
 |x::xs=>by rw[List.map_cons,D.toFDs,zpI xs];rfl
theorem zF5 {b:Brn}{i:Nat}{fs:List Abs.zac}{x2:D}{H:zaw}{n g1:Nat}{R:D→zaw→Nat→Prop}{B':Brn}(hi:i<b.used.length)(hb:b.list.length≤100000∧b.used.length≤100000∧b.seen.length≤100000∧fs.length≤100000)(hs:∀s∈b.seen,s.length≤1000000)
  (ho:H (36007,g1)=some ⟨(b.used.map (D.fz∘enc)).set i (.fz (.b true)),false,b.used.isEmpty⟩)(h2:x2= .fz (.sl (fs.map enc))∨x2= .full (fs.map enc))(hB:zbS (zb6 b i) fs=B')
  (hR:R (.fz (enc B')) (zaK H (36007,g1) none) n):zaA Tryz.prog GA 13 [.agg [.fz (.sl (b.list.map enc)),.arr (36007,g1) 1 0 b.used.length,.fz (.sl (b.seen.map enc)),.fz (.i .i64 b.rounds)],x2] H n R:=by
 subst hB
 obtain⟨U,hU⟩:∃U,b.used.set i true=U:=⟨_,rfl⟩
 have hUl:U.length=b.used.length:=by rw[←hU,List.length_set]
 have hc:(b.used.map (D.fz∘enc)).set i (.fz (.b true))=(U.map enc).map .fz:=by
  rw[←hU,List.map_map,List.map_set];rfl
 rw[hc]at ho
 have hne:b.used.isEmpty=false:=by
  cases hb:b.used with
  |nil=>rw[hb]at hi;simp at hi
  |cons=>rfl
 have hb2:(zb6 b i).list.length≤100000∧(zb6 b i).used.length≤100000∧(zb6 b i).seen.length≤100000∧fs.length≤100000:=⟨hb.1,by unfold zb6;simp only[List.length_set];exact hb.2.1,hb.2.2.1,hb.2.2.2⟩
 have em:enc (zb6 b i)= .agg [.sl (b.list.map enc),.sl (U.map enc),.sl (b.seen.map enc),.i .i64 b.rounds]:=by rw[←hU];rfl
 refine zeS (36007,g1) (U.map enc) ho (fun h=>by simp only[hne]at h;cases h) (zpI _) (fun x hx=>by obtain⟨y,_,rfl⟩:=List.mem_map.1 hx;rfl) (args':=[.agg [.fz (.sl (b.list.map enc)),.fz (.sl (U.map enc)),.fz (.sl (b.seen.map enc)),.fz (.i .i64 b.rounds)],x2]) ?_ ?_
 ·rcases h2 with rfl|rfl<;>simp only[zpg,fzD,List.length_map,hUl,and_self,if_true]
 ·refine zAz (b:=zb6 b i) (fs:=fs) hb2 hs ?_ hR
  rw[em]
  rcases h2 with rfl|rfl<;>rfl
theorem zAy (k:Nat){b B':Brn}{fs:List Abs.zac}{args:List D}{H:zaw}{n:Nat}{R:D→zaw→Nat→Prop}(hb:b.list.length≤100000∧b.used.length≤100000∧b.seen.length≤100000∧fs.length≤100000)(hs:∀s∈b.seen,s.length≤1000000)
  (hB:zbS b fs=B')(ha:D.toFDs args=some [enc b,.sl (fs.map enc)])
  (hR:∀r g n',n≤r→r<n'→n≤g→g<n'→R (.agg [.fz (.sl (B'.list.map enc)),.fz (.sl (B'.used.map enc)),.arr (13043,r) 1 0 B'.seen.length,.fz (.i .i64 B'.rounds)]) (hpX [((13043,r),some ⟨zbq k g B'.seen,false,B'.seen.isEmpty⟩),((43007,g),some tok)] H) n'):zaA Tryz.prog GA 13 args H n R:=by
 subst hB
 refine zH7 k hb hs ha fun r g n' h1 h2 h3 h4=>?_
 have h:=hR r g n' h1 h2 h3 h4
 have e:(zbS b fs).seen.length=b.seen.length+fs.length:=by unfold zbS;simp
 rw[e]at h
 exact h
theorem zlp:∀{ds:List D} {xs:List FD},ds.length=xs.length→(∀j,j<xs.length→(ds.getD j .junk).toFD=some (xs.getD j .nilf))→D.toFDs ds=some xs
 |[],[],_,_=>rfl
 |[],_::_,h,_=>by simp at h
 |_::_,[],h,_=>by simp at h
 |d::ds,x::xs,h,hj=>by
  have h0:=hj 0 (by simp)
  have ih:=zlp (ds:=ds) (xs:=xs) (by simpa using h) (fun j h2=>by have:=hj (j+1) (by simpa using h2);simpa using this)
  simp only[List.getD_cons_zero]at h0
  rw[D.toFDs,h0,ih]
theorem znc {k g j:Nat}{S:List (List Str)}(h:j<S.length):((zbq k g S).getD j .junk).toFD=some (.sl (S[j].map enc)):=by
 rw[zej h]
 split<;>rfl
theorem zrl {k g:Nat}{S:List (List Str)}:D.toFDs (zbq k g S)=some (S.map enc):=by
 refine zlp (by rw[zaV,List.length_map]) fun j hj=>?_
 rw[List.length_map]at hj
 rw[znc hj,List.getD_eq_getElem?_getD,List.getElem?_eq_getElem (by simpa using hj),Option.getD_some,List.getElem_map]
 rfl
theorem zwA {k g i es:Nat}{id:Abs.Id}{S:List (List Str)}{x:List Str}(hi:i<S.length):D.toFDs ((zbq k g S).set i (.ow id es (x.map enc)))=some ((S.set i x).map enc):=by
 refine zlp (by rw[List.length_set,zaV,List.length_map,List.length_set]) fun j hj=>?_
 rw[List.length_map,List.length_set]at hj
 rw[List.getD_eq_getElem?_getD (l:=(S.set i x).map enc),List.getElem?_eq_getElem (by simpa using hj),Option.getD_some,List.getElem_map]
 by_cases e:i=j
 ·subst e
  rw[List.getD_eq_getElem?_getD,List.getElem?_set_self (by rw[zaV];exact hi),Option.getD_some,List.getElem_set_self]
  rfl
 ·rw[List.getD_eq_getElem?_getD,List.getElem?_set_ne e,←List.getD_eq_getElem?_getD,znc hj,List.getElem_set_ne e]
  rfl
theorem zD4 (k:Nat){b B':Brn}{fs:List Abs.zac}{cells:List D}{v:Bool}{H:zaw}{n r0 len:Nat}{x2:D}{R:D→zaw→Nat→Prop}(hb:b.list.length≤100000∧b.used.length≤100000∧b.seen.length≤100000∧fs.length≤100000)(hs:∀s∈b.seen,s.length≤1000000)
  (hB:zbS b fs=B')(ho:H (13043,r0)=some ⟨cells,false,v⟩)(hv:v=true→b.seen=[])(hc:D.toFDs cells=some (b.seen.map enc))(hl:len=b.seen.length)(h2:x2= .full (fs.map enc))
  (hR:∀r g n',n≤r→r<n'→n≤g→g<n'→R (.agg [.fz (.sl (B'.list.map enc)),.fz (.sl (B'.used.map enc)),.arr (13043,r) 1 0 B'.seen.length,.fz (.i .i64 B'.rounds)]) (hpX [((13043,r),some ⟨zbq k g B'.seen,false,B'.seen.isEmpty⟩),((43007,g),some tok)] (zaK H (13043,r0) none)) n'):
  zaA Tryz.prog GA 13 [.agg [.fz (.sl (b.list.map enc)),.fz (.sl (b.used.map enc)),.arr (13043,r0) 1 0 len,.fz (.i .i64 b.rounds)],x2] H n R:=by
 subst hl h2
 refine zeS (13043,r0) (b.seen.map enc) ho (fun h=>by rw[hv h];rfl) hc (fun x hx=>by obtain⟨y,_,rfl⟩:=List.mem_map.1 hx;rfl) (args':=[.agg [.fz (.sl (b.list.map enc)),.fz (.sl (b.used.map enc)),.fz (.sl (b.seen.map enc)),.fz (.i .i64 b.rounds)],.full (fs.map enc)]) ?_ ?_
 ·simp only[zpg,fzD,List.length_map,and_self,if_true]
 ·exact zAy k hb hs hB rfl hR
def zrH (CS:List Str)(c:Brn):List Abs.zac→Nat→Nat
 |[],_=>c.seen.length
 |f::fs,i=>if(zag f).1=3∧(∃w∈CS,w∉c.seen.getD i [])then i else zrH CS c fs (i+1)
def zrI (CS:List Str)(c:Brn)(ws:List Str)(i:Nat)(fs:List Abs.zac):Nat:=if∃w∈ws,w∉c.seen.getD i []then i else zrH CS c fs (i+1)
theorem zmX {CS:List Str}{c:Brn}{l:List Abs.zac}{i k:Nat}(h:i<l.length):zrH CS c (l.drop i) k=if(zag l[i]).1=3∧(∃w∈CS,w∉c.seen.getD k [])then k else zrH CS c (l.drop (i+1)) (k+1):=by
 rw[List.drop_eq_getElem_cons h,zrH]
theorem zyZ {CS:List Str}{c:Brn}{ws:List Str}{i j:Nat}{fs:List Abs.zac}(h:j<ws.length)(hin:ws[j]∈c.seen.getD i []):zrI CS c (ws.drop j) i fs=zrI CS c (ws.drop (j+1)) i fs:=by
 unfold zrI
 rw[List.drop_eq_getElem_cons h]
 have e:(∃w∈ws[j]::ws.drop (j+1),w∉c.seen.getD i [])↔(∃w∈ws.drop (j+1),w∉c.seen.getD i []):=by
  constructor
  ·rintro⟨w,hw,hn⟩
   rcases List.mem_cons.1 hw with rfl|hw
   ·exact absurd hin hn
   ·exact⟨w,hw,hn⟩
  ·rintro⟨w,hw,hn⟩
   exact⟨w,List.mem_cons_of_mem _ hw,hn⟩
 simp only[e]
theorem zwi {CS:List Str}{c:Brn}{ws:List Str}{i j:Nat}{fs:List Abs.zac}(h:j<ws.length)(hin:ws[j]∉c.seen.getD i []):zrI CS c (ws.drop j) i fs=i:=by
 unfold zrI
 rw[List.drop_eq_getElem_cons h,if_pos ⟨_,List.mem_cons_self,hin⟩]
theorem zwh {CS:List Str}{c:Brn}{ws:List Str}{i j:Nat}{fs:List Abs.zac}(h:ws.length≤j):zrI CS c (ws.drop j) i fs=zrH CS c fs (i+1):=by
 unfold zrI
 rw[List.drop_eq_nil_of_le h,if_neg (by rintro⟨w,hw,_⟩;simp at hw)]
theorem zwg {CS:List Str}{c:Brn}{l:List Abs.zac}{i k:Nat}(h:i<l.length)(hk:(zag l[i]).1=3):zrH CS c (l.drop i) k=zrI CS c CS k (l.drop (i+1)):=by
 rw[zmX h]
 unfold zrI
 by_cases e:∃w∈CS,w∉c.seen.getD k []
 ·rw[if_pos ⟨hk,e⟩,if_pos e]
 ·rw[if_neg (fun h=>e h.2),if_neg e]
theorem zyY {CS:List Str}{c:Brn}{l:List Abs.zac}{i k:Nat}(h:i<l.length)(hk:¬(zag l[i]).1=3):zrH CS c (l.drop i) k=zrH CS c (l.drop (i+1)) (k+1):=by
 rw[zmX h,if_neg (fun h=>hk h.1)]
theorem zu9 {b:Brn}:zbS b []=b:=by
 unfold zbS
 simp only[List.append_nil,List.length_nil,List.replicate_zero]
def zDT (uses a:Int)(n:Nat)(s:GS):Prop:=zb9 uses s.c s.added∧n≤s.c.list.length∧(s.steps.length:Int)+a≤s.added
structure zwX (n n0:Nat)(p:Nat→GS→Prop) where
 i:Nat
 s:GS
 r:Nat
 g:Nat
 z:Nat
 m:Nat
 hi:i≤n
 hr:r<m
 hg:g<m
 hz:z<m
 hm:n0≤m
 hp:p i s
theorem zgb {xs ys:List FD}:zaf (xs++ys)=zaf xs++zaf ys:=by simp[zaf]
theorem zA0 {xs:List FD}{a:FD}{l:List FD}:(zaf (xs++[FD.agg (a::l)])).isEmpty=false:=by
 rw[zgb]
 have:zaf [FD.agg (a::l)]=D.fz a::l.map .fz:=by simp[zaf,FD.cells]
 rw[this]
 cases zaf xs<;>rfl
theorem zvq {n n':Nat}{pre:Abs.Id→Abs.Id}{vn:Abs.Id→Bool}{z:Abs.Id→Option (List FD)}{H:zaw}{k g:Nat}{S:List (List Str)}(hg:g<n'):Drs n n' pre vn z H (zbq k g S) (zbq k g S):=by
 have h:=zsF (n:=n) (pre:=pre) (vn:=vn) (z:=z) (H:=H) (k:=k) (m:=0) (S:=S) hg
 simpa using h
theorem zFN {c:Brn}{uses ad:Int}{r:Res}{H:zaw}{n r0 k g:Nat}{v:Bool}{R:D→zaw→Nat→Prop}
  (hrun:zaA Tryz.prog GA 12 [.ptr (7,0) 0,.fz (enc c)] (hpL [((7,0),some ⟨[.fz (.i .i64 uses),.fz (.i .i64 ad)],true,false⟩)]) 1
   (fun d H' _=>D.val d=some (.tup [.fz (enc r.p),.fz (.b r.ok),.fz (.b r.lim)])∧H' (7,0)=some ⟨[FD.i .i64 uses,.i .i64 r.added].map .fz,true,false⟩))
  (ho:H (13043,r0)=some ⟨zbq k g c.seen,false,v⟩)(hv:v=true→c.seen=[])(hs:H (7,0)=some ⟨[.fz (.i .i64 uses),.fz (.i .i64 ad)],true,false⟩)
  (hR:R (.tup [.fz (enc r.p),.fz (.b r.ok),.fz (.b r.lim)]) (zaK (zaK H (13043,r0) none) (7,0) (some ⟨[FD.i .i64 uses,.i .i64 r.added].map .fz,true,false⟩)) n):
  zaA Tryz.prog GA 12 [.ptr (7,0) 0,.agg [.fz (.sl (c.list.map enc)),.fz (.sl (c.used.map enc)),.arr (13043,r0) 1 0 c.seen.length,.fz (.i .i64 c.rounds)]] H n R:=by
 refine zeS (13043,r0) (c.seen.map enc) ho (fun h=>by rw[hv h];rfl) zrl (fun x hx=>by obtain⟨y,_,rfl⟩:=List.mem_map.1 hx;rfl) (args':=[.ptr (7,0) 0,.agg [.fz (.sl (c.list.map enc)),.fz (.sl (c.used.map enc)),.fz (.sl (c.seen.map enc)),.fz (.i .i64 c.rounds)]]) ?_ ?_
 ·simp only[zpg,fzD,List.length_map,and_self,if_true]
 ·refine zcv (T:=7) (xs:=[enc c]) (cs:=[.i .i64 uses,.i .i64 ad]) (cs':=[.i .i64 uses,.i .i64 r.added]) rfl hrun ?_ hR
  unfold zaK
  rw[if_neg (by simp)]
  exact hs
structure zAr (n n0:Nat)(P:Nat→List Prf→Prf→Prop) where
 i:Nat
 tl:List Prf
 p:Prf
 m:Nat
 hi:i≤n
 hm:n0≤m
 hp:P i tl p
structure zDV (n n0:Nat)(p:Nat→List Prf→Int→Prop) where
 i:Nat
 subs:List Prf
 a:Int
 g:Nat
 m:Nat
 hi:i≤n
 hg:g<m
 hm:n0≤m
 hp:p i subs a
def zwQ:List Int:=[1,4,2]
def zFO (uses:Int)(rec:Brn→Int→Res)(m:Nat):Prop:=∀(b:Brn) (a:Int),zb9 uses b a→301-a≤m→zaA Tryz.prog GA 12 [.ptr (7,0) 0,.fz (enc b)] (hpL [((7,0),some ⟨[.fz (.i .i64 uses),.fz (.i .i64 a)],true,false⟩)]) 1
  (fun d H' _=>D.val d=some (.tup [.fz (enc (rec b a).p),.fz (.b (rec b a).ok),.fz (.b (rec b a).lim)])∧H' (7,0)=some ⟨[FD.i .i64 uses,.i .i64 (rec b a).added].map .fz,true,false⟩)
set_option maxHeartbeats 16000000 in
theorem zy8 {uses:Int}{m:Nat}{rec:Brn→Int→Res}(hih:zFO uses rec m)(hadd:∀b a,a≤300→zjh a (rec b a)):zFO uses (zha rec uses) (m+1):=by
 intro b a hok hm1
 obtain⟨V,hV⟩:∃V,zha rec uses b a=V:=⟨_,rfl⟩
 rw[hV]
 obtain⟨Q,hQ⟩:∃Q:D→zaw→Nat→Prop,Q=(fun d H' _=>D.val d=some (.tup [.fz (enc V.p),.fz (.b V.ok),.fz (.b V.lim)])∧H' (7,0)=some ⟨[FD.i .i64 uses,.i .i64 V.added].map .fz,true,false⟩):=⟨_,rfl⟩
 rw[←hQ]
 have kq:=Kp.mk hQ
 clear hQ
 unfold zha at hV
 have hll:=hok.ll
 have ha0:=hok.a0
 have ha1:=hok.a1
 have hr0:=hok.r0
 have hr1:=hok.r1
 have hu:=hok.u
 have hcl:(∀f∈b.list,brF f)∧b.list.length≤100000:=⟨hok.br,by omega⟩
 have ko:=Kp.mk hok
 have ki:=Kp.mk hih
 have kd:=Kp.mk hadd
 clear hok hih hadd
 refine zah (N:=304) hm hZ3 12000 (lsw [184,256] [270,1000028,1000044,1000063,1000064]) zII Tryz.func12 rfl rfl (by simp) (by kernel_rfl) ?_
 cases hM:zcD b.list with
 |some p=>
  rw[hM]at hV
  simp only at hV
  subst hV
  have hR:=zhr hM
  clear hM
  repeat'(first|refine zaj.i hcl fun _=>?_|refine And.intro ?_ ?_|exact True.intro|refine rq fun _=>?_|refine rf fun _=>?_|simp only[go_sem,hR,zax,zab,zam,zad,zaa,Tryz.f12])
  all_goals(
   rw[kq.out]
   refine⟨?_,?_⟩
   ·simp only[go_sem,zaU]
   ·simp only[go_sem,zaU])
 |none=>
  rw[hM]at hV
  simp only at hV
  have hR:=zhq hM
  obtain⟨K,hK⟩:∃K,zdN rec uses b a=K:=⟨_,rfl⟩
  rw[hK]at hV
  repeat'(first|refine zaj.i hcl fun _=>?_|refine And.intro ?_ ?_|exact True.intro|refine rq fun _=>?_|refine rf fun _=>?_|simp only[go_sem,hR,zbK,zax,zab,zam,zad,zaa,Tryz.f12])
  refine zao hm hZ3 12000 (lsw [184,256] [270,1000028,1000044,1000063,1000064]) (ι:=zep 3 4 fun w=>zeN rec b a K (zwQ.drop w)=V)
   ⟨fun q=>⟨frL [(0,.ptr (7,0) 0),(3,.ptr (12003,1) 0),(4,.ptr (12004,2) 0),(5,.fz (.b false)),(6,.fz (.b false)),(55,.full [.i .i64 1,.i .i64 4,.i .i64 2]),(56,.fz (.i .i64 3)),(57,.fz (.i .i64 q.i))],hpL [((12003,1),some ⟨[.fz (.sl (b.list.map enc)),.fz (.sl (b.used.map enc)),.fz (.sl (b.seen.map enc)),.fz (.i .i64 b.rounds)],true,false⟩),((12004,2),some ⟨[.fz (.i .i64 0),.fz (.i .i64 0),.fz (.i .i64 0),.fz (.s []),.full []],true,false⟩),((7,0),some ⟨[.fz (.i .i64 uses),.fz (.i .i64 a)],true,false⟩)],q.m⟩,fun q=>3-q.i⟩
   ⟨0,4,by omega,by omega,hV⟩ (by kernel_rfl) ?_ ?_
  ·refine zai ?_ ?_ ?_<;>simp only[go_sem]
   all_goals first|done|rfl|omega
  rintro⟨w,q0,hw,hq0,hP⟩
  try simp only at hw hq0 hP
  clear hR hM
  rcases Nat.lt_or_ge w 3 with hw3|hw3
  ·have hcase:w=0∨w=1∨w=2:=by omega
   rcases hcase with rfl|rfl|rfl
   ·have hP2:(match zb7 1 (b.list.drop 0) (b.used.drop 0) 0 with
     |some i=>zb5 rec b a i (b.list.getD i zbk)
     |none=>zeN rec b a K (zwQ.drop 1))=V:=hP
    obtain⟨X,hX⟩:∃X,zb7 1 (b.list.drop 0) (b.used.drop 0) 0=X:=⟨_,rfl⟩
    rw[hX]at hP2
    repeat'(first|refine And.intro ?_ ?_|exact True.intro|refine rq fun _=>?_|refine rf fun _=>?_|simp only[go_sem,zax,zab,zam,zad,zaa,Tryz.f12])
    refine zao hm hZ3 12000 (lsw [184,256] [270,1000028,1000044,1000063,1000064]) (ι:=zep b.list.length q0 fun i=>zb7 1 (b.list.drop i) (b.used.drop i) i=X)
     ⟨fun q=>⟨frL [(0,.ptr (7,0) 0),(3,.ptr (12003,1) 0),(4,.ptr (12004,2) 0),(5,.fz (.b false)),(6,.fz (.b false)),(10,.fz (.i .i64 1)),(55,.full [.i .i64 1,.i .i64 4,.i .i64 2]),(56,.fz (.i .i64 3)),(57,.fz (.i .i64 0)),(62,.fz (.sl (b.list.map enc))),(63,.fz (.i .i64 b.list.length)),(64,.fz (.i .i64 q.i))],hpL [((12003,1),some ⟨[.fz (.sl (b.list.map enc)),.fz (.sl (b.used.map enc)),.fz (.sl (b.seen.map enc)),.fz (.i .i64 b.rounds)],true,false⟩),((12004,2),some ⟨[.fz (.i .i64 0),.fz (.i .i64 0),.fz (.i .i64 0),.fz (.s []),.full []],true,false⟩),((7,0),some ⟨[.fz (.i .i64 uses),.fz (.i .i64 a)],true,false⟩)],q.m⟩,fun q=>b.list.length-q.i⟩
     ⟨0,q0,by omega,by omega,hX⟩ (by kernel_rfl) ?_ ?_
    ·refine zai ?_ ?_ ?_<;>simp only[go_sem]
     all_goals first|done|rfl|omega
    rintro⟨i,q1,hi,hq1,hE⟩
    try simp only at hi hq1 hE
    rcases Nat.lt_or_ge i b.list.length with h1|h1
    rotate_left
    ·rw[zef h1]at hE
     rw[←hE]at hP2
     simp only at hP2
     obtain rfl:i=b.list.length:=by omega
     repeat'(first|refine And.intro ?_ ?_|exact True.intro|refine rq fun _=>?_|refine rf fun _=>?_|simp only[go_sem,Nat.lt_irrefl,zax,zab,zam,zad,zaa,Tryz.f12])
     all_goals refine⟨⟨1,q1,by omega,by omega,hP2⟩,by simp only;omega,?_⟩
     all_goals refine zai ?_ ?_ ?_<;>simp only[go_sem]
     all_goals first|done|rfl|omega
    have hul:=ko.out.ul
    have h2:i<b.used.length:=by omega
    obtain⟨f,hf⟩:∃f,b.list[i]=f:=⟨_,rfl⟩
    obtain⟨u,hu2⟩:∃u,b.used[i]=u:=⟨_,rfl⟩
    have hfb:brF f:=ko.out.br f (by rw[←hf];exact List.getElem_mem h1)
    rw[zdn h1 h2,hf,hu2]at hE
    obtain⟨k,hk⟩:∃k,(zag f).1=k:=⟨_,rfl⟩
    rw[hk]at hE
    cases u with
    |true=>
     rw[if_neg (by simp)]at hE
     repeat'(first|refine And.intro ?_ ?_|exact True.intro|refine rq fun _=>?_|refine rf fun _=>?_|simp only[go_sem,h1,h2,hf,hu2,hk,zax,zab,zam,zad,zaa,Tryz.f12])
     all_goals refine⟨⟨i+1,q1+1,by omega,by omega,hE⟩,by simp only;omega,?_⟩
     all_goals refine zai ?_ ?_ ?_<;>simp only[go_sem]
     all_goals first|done|rfl|omega
    |false=>
     by_cases hkw:k=1
     rotate_left
     ·rw[if_neg (by simp[hkw])]at hE
      have hkw':(k=1)=False:=eq_false hkw
      repeat'(first|refine zaj.i hfb fun _=>?_|refine And.intro ?_ ?_|exact True.intro|refine rq fun _=>?_|refine rf fun _=>?_|simp only[go_sem,h1,h2,hf,hu2,hk,hkw',zax,zab,zam,zad,zaa,Tryz.f12])
      all_goals refine⟨⟨i+1,q1+1,by omega,by omega,hE⟩,by simp only;omega,?_⟩
      all_goals refine zai ?_ ?_ ?_<;>simp only[go_sem]
      all_goals first|done|rfl|omega
     subst hkw
     rw[if_pos ⟨rfl,rfl⟩]at hE
     rw[←hE]at hP2
     simp only at hP2
     have hfg:b.list.getD i zbk=f:=by rw[List.getD_eq_getElem?_getD,List.getElem?_eq_getElem h1,hf];rfl
     rw[hfg]at hP2
     obtain⟨pb1,pb2,pb3,pb4⟩:=zcH hfb
     obtain⟨po,pq,pt,hPt⟩:∃o q t,zag f=(1,o,q,t):=⟨(zag f).2.1,(zag f).2.2.1,(zag f).2.2.2,by rw[←hk]⟩
     rw[hPt]at pb1 pb2 pb3 pb4
     simp only at pb1 pb2 pb3 pb4
     unfold zb5 at hP2
     rw[hPt]at hP2
     rw[if_pos rfl]at hP2
     have hpo1:1≤po.length:=by have:=zid (f:=f) (by rw[hPt]);rw[hPt]at this;exact this
     have hvi:b.used.isEmpty=false∧i+1≤b.used.length:=⟨by cases hb:b.used with|nil=>rw[hb]at h2;simp at h2|cons=>rfl,by omega⟩
     by_cases hfu:300<a+po.length
     ·rw[if_pos hfu]at hP2
      have hfT:(300<a+(po.length:Int))=True:=eq_true hfu
      repeat'(first|refine zaj.i hfb fun _=>?_|refine zaj.i hvi fun _=>?_|refine zaI.i (zd6 (cs:=b.used.map enc) (xs:=[FD.sl (b.used.map enc)]) rfl (zir (l:=b.used) (by omega)) fun g1 n1 hg1 hn1=>?_)|refine zaI.i (zmy (uses:=uses) (by simp only[go_sem]) ⟨ha0,ha1⟩ (by omega) ?_)|refine And.intro ?_ ?_|exact True.intro|refine rq fun _=>?_|refine rf fun _=>?_|simp only[go_sem,hfT,h1,h2,hf,hu2,hk,hPt,zax,zab,zam,zad,zaa,Tryz.f12])
      all_goals(
       rw[kq.out,←hP2]
       refine⟨?_,?_⟩
       ·simp only[go_sem,zaU,zjR,zbK]
       ·simp only[go_sem,zaU,zjR,zbK])
     ·rw[if_neg hfu]at hP2
      have hfT:(300<a+(po.length:Int))=False:=eq_false hfu
      repeat'(first|refine zaj.i hfb fun _=>?_|refine zaj.i hvi fun _=>?_|refine zaI.i (zd6 (cs:=b.used.map enc) (xs:=[FD.sl (b.used.map enc)]) rfl (zir (l:=b.used) (by omega)) fun g1 n1 hg1 hn1=>?_)|refine zaI.i (zmy (uses:=uses) (by simp only[go_sem]) ⟨ha0,ha1⟩ (by omega) ?_)|refine And.intro ?_ ?_|exact True.intro|refine rq fun _=>?_|refine rf fun _=>?_|simp only[go_sem,hfT,h1,h2,hf,hu2,hk,hPt,zax,zab,zam,zad,zaa,Tryz.f12])
      obtain⟨B',hB'⟩:∃B',zbS (zb6 b i) po=B':=⟨_,rfl⟩
      have hok':zb9 uses B' (a+po.length):=by rw[←hB'];exact(ko.out.mark i).add pb1 rfl (by omega)
      rw[hB']at hP2
      obtain⟨r,hr⟩:∃r,rec B' (a+po.length)=r:=⟨_,rfl⟩
      rw[hr]at hP2
      have hrun:=ki.out B' (a+po.length) hok' (by omega)
      rw[hr]at hrun
      have hsn:∀s∈b.seen,s.length≤1000000:=fun s hs=>by have:=ko.out.ss s hs;omega
      have hsl:=ko.out.sl
      refine zaI.i (zF5 (b:=b) (i:=i) (fs:=po) h2 ⟨by omega,by omega,by omega,by omega⟩ hsn (by simp only[go_sem]) (.inl rfl) hB' ?_)
      repeat'(first|refine And.intro ?_ ?_|exact True.intro|refine rq fun _=>?_|refine rf fun _=>?_|simp only[go_sem,zax,zab,zam,zad,zaa,Tryz.f12])
      refine zaI.i (zcv (T:=7) (xs:=[enc B']) (cs:=[.i .i64 uses,.i .i64 (a+po.length)]) rfl hrun (by simp only[go_sem]) ?_)
      repeat'(first|refine And.intro ?_ ?_|exact True.intro|refine rq fun _=>?_|refine rf fun _=>?_|simp only[go_sem,zax,zab,zam,zad,zaa,Tryz.f12])
      all_goals(
       rw[kq.out,←hP2]
       refine⟨?_,?_⟩
       ·simp only[go_sem,zaU,zlM]
       ·simp only[go_sem,zaU,zlM])
   ·have hP2:(match zb7 4 (b.list.drop 0) (b.used.drop 0) 0 with
     |some i=>zb5 rec b a i (b.list.getD i zbk)
     |none=>zeN rec b a K (zwQ.drop 2))=V:=hP
    obtain⟨X,hX⟩:∃X,zb7 4 (b.list.drop 0) (b.used.drop 0) 0=X:=⟨_,rfl⟩
    rw[hX]at hP2
    repeat'(first|refine And.intro ?_ ?_|exact True.intro|refine rq fun _=>?_|refine rf fun _=>?_|simp only[go_sem,zax,zab,zam,zad,zaa,Tryz.f12])
    refine zao hm hZ3 12000 (lsw [184,256] [270,1000028,1000044,1000063,1000064]) (ι:=zep b.list.length q0 fun i=>zb7 4 (b.list.drop i) (b.used.drop i) i=X)
     ⟨fun q=>⟨frL [(0,.ptr (7,0) 0),(3,.ptr (12003,1) 0),(4,.ptr (12004,2) 0),(5,.fz (.b false)),(6,.fz (.b false)),(10,.fz (.i .i64 4)),(55,.full [.i .i64 1,.i .i64 4,.i .i64 2]),(56,.fz (.i .i64 3)),(57,.fz (.i .i64 1)),(62,.fz (.sl (b.list.map enc))),(63,.fz (.i .i64 b.list.length)),(64,.fz (.i .i64 q.i))],hpL [((12003,1),some ⟨[.fz (.sl (b.list.map enc)),.fz (.sl (b.used.map enc)),.fz (.sl (b.seen.map enc)),.fz (.i .i64 b.rounds)],true,false⟩),((12004,2),some ⟨[.fz (.i .i64 0),.fz (.i .i64 0),.fz (.i .i64 0),.fz (.s []),.full []],true,false⟩),((7,0),some ⟨[.fz (.i .i64 uses),.fz (.i .i64 a)],true,false⟩)],q.m⟩,fun q=>b.list.length-q.i⟩
     ⟨0,q0,by omega,by omega,hX⟩ (by kernel_rfl) ?_ ?_
    ·refine zai ?_ ?_ ?_<;>simp only[go_sem]
     all_goals first|done|rfl|omega
    rintro⟨i,q1,hi,hq1,hE⟩
    try simp only at hi hq1 hE
    rcases Nat.lt_or_ge i b.list.length with h1|h1
    rotate_left
    ·rw[zef h1]at hE
     rw[←hE]at hP2
     simp only at hP2
     obtain rfl:i=b.list.length:=by omega
     repeat'(first|refine And.intro ?_ ?_|exact True.intro|refine rq fun _=>?_|refine rf fun _=>?_|simp only[go_sem,Nat.lt_irrefl,zax,zab,zam,zad,zaa,Tryz.f12])
     all_goals refine⟨⟨2,q1,by omega,by omega,hP2⟩,by simp only;omega,?_⟩
     all_goals refine zai ?_ ?_ ?_<;>simp only[go_sem]
     all_goals first|done|rfl|omega
    have hul:=ko.out.ul
    have h2:i<b.used.length:=by omega
    obtain⟨f,hf⟩:∃f,b.list[i]=f:=⟨_,rfl⟩
    obtain⟨u,hu2⟩:∃u,b.used[i]=u:=⟨_,rfl⟩
    have hfb:brF f:=ko.out.br f (by rw[←hf];exact List.getElem_mem h1)
    rw[zdn h1 h2,hf,hu2]at hE
    obtain⟨k,hk⟩:∃k,(zag f).1=k:=⟨_,rfl⟩
    rw[hk]at hE
    cases u with
    |true=>
     rw[if_neg (by simp)]at hE
     repeat'(first|refine And.intro ?_ ?_|exact True.intro|refine rq fun _=>?_|refine rf fun _=>?_|simp only[go_sem,h1,h2,hf,hu2,hk,zax,zab,zam,zad,zaa,Tryz.f12])
     all_goals refine⟨⟨i+1,q1+1,by omega,by omega,hE⟩,by simp only;omega,?_⟩
     all_goals refine zai ?_ ?_ ?_<;>simp only[go_sem]
     all_goals first|done|rfl|omega
    |false=>
     by_cases hkw:k=4
     rotate_left
     ·rw[if_neg (by simp[hkw])]at hE
      have hkw':(k=4)=False:=eq_false hkw
      repeat'(first|refine zaj.i hfb fun _=>?_|refine And.intro ?_ ?_|exact True.intro|refine rq fun _=>?_|refine rf fun _=>?_|simp only[go_sem,h1,h2,hf,hu2,hk,hkw',zax,zab,zam,zad,zaa,Tryz.f12])
      all_goals refine⟨⟨i+1,q1+1,by omega,by omega,hE⟩,by simp only;omega,?_⟩
      all_goals refine zai ?_ ?_ ?_<;>simp only[go_sem]
      all_goals first|done|rfl|omega
     subst hkw
     rw[if_pos ⟨rfl,rfl⟩]at hE
     rw[←hE]at hP2
     simp only at hP2
     have hfg:b.list.getD i zbk=f:=by rw[List.getD_eq_getElem?_getD,List.getElem?_eq_getElem h1,hf];rfl
     rw[hfg]at hP2
     obtain⟨pb1,pb2,pb3,pb4⟩:=zcH hfb
     obtain⟨po,pq,pt,hPt⟩:∃o q t,zag f=(4,o,q,t):=⟨(zag f).2.1,(zag f).2.2.1,(zag f).2.2.2,by rw[←hk]⟩
     rw[hPt]at pb1 pb2 pb3 pb4
     simp only at pb1 pb2 pb3 pb4
     unfold zb5 at hP2
     rw[hPt]at hP2
     have hP3:(if(4:Int)=1 then _ else if(4:Int)=4 then(if 300<a+1 then zjR (a+1)else ziy i (zea (za6 b.list)) (rec (zbS (zb6 b i) [zbJ pq pt (zea (za6 b.list))]) (a+1)))else _)=V:=hP2
     rw[if_neg (by decide),if_pos rfl]at hP3
     have hvi:b.used.isEmpty=false∧i+1≤b.used.length:=⟨by cases hb:b.used with|nil=>rw[hb]at h2;simp at h2|cons=>rfl,by omega⟩
     have hsn:∀s∈b.seen,s.length≤1000000:=fun s hs=>by have:=ko.out.ss s hs;omega
     have hsl:=ko.out.sl
     by_cases hfu:300<a+1
     ·rw[if_pos hfu]at hP3
      have hfT:(300<a+1)=True:=eq_true hfu
      repeat'(first|refine zaj.i hfb fun _=>?_|refine zaj.i hvi fun _=>?_|refine zaI.i (zd6 (cs:=b.used.map enc) (xs:=[FD.sl (b.used.map enc)]) rfl (zir (l:=b.used) (by omega)) fun g1 n1 hg1 hn1=>?_)|refine zaI.i (zmy (uses:=uses) (by simp only[go_sem]) ⟨ha0,ha1⟩ (by omega) ?_)|refine And.intro ?_ ?_|exact True.intro|refine rq fun _=>?_|refine rf fun _=>?_|simp only[go_sem,hfT,h1,h2,hf,hu2,hk,hPt,zax,zab,zam,zad,zaa,Tryz.f12])
      all_goals(
       rw[kq.out,←hP3]
       refine⟨?_,?_⟩
       ·simp only[go_sem,zaU,zjR,zbK]
       ·simp only[go_sem,zaU,zjR,zbK])
     rw[if_neg hfu]at hP3
     have hfT:(300<a+1)=False:=eq_false hfu
     obtain⟨qa,hqa,hab,has⟩:=pb4 (by simp)
     have hip:zkV pq pt ⟨[]⟩:=⟨qa,hqa,hab.ft,by omega⟩
     obtain⟨hf1,hf2,hf3⟩:=zfN (za6 b.list)
     have hnl:=zmT ko.out.br
     have hnb:(za6 b.list).length≤1000000000:=by
      have hbl:b.list.length≤1000:=by omega
      have hbm:b.list.length*1000000≤1000*1000000:=Nat.mul_le_mul_right _ hbl
      omega
     have hnm:zea (za6 b.list)=zb2 (zch (za6 b.list) (za6 b.list).length 0):=rfl
     obtain⟨NS,hNS⟩:∃NS,za6 b.list=NS:=⟨_,rfl⟩
     rw[hNS]at hf1 hf2 hf3 hnb hnm hP3
     obtain⟨KF,hKF⟩:∃KF,zch NS NS.length 0=KF:=⟨_,rfl⟩
     rw[hKF]at hf1 hf2 hf3 hnm
     rw[hnm]at hP3
     obtain⟨nmAt,hnA⟩:∃nmAt:Nat→List UInt8,nmAt=fun k=>if k=0 then[]else(zb2 (k-1)).l:=⟨_,rfl⟩
     have hn0:nmAt 0=[]:=by rw[hnA];rfl
     have hns:∀k,nmAt (k+1)=(zb2 k).l:=fun k=>by rw[hnA];simp
     repeat'(first|refine zaj.i hcl fun _=>?_|refine zaj.i hfb fun _=>?_|refine zaj.i hvi fun _=>?_|refine zaI.i (zd6 (cs:=b.used.map enc) (xs:=[FD.sl (b.used.map enc)]) rfl (zir (l:=b.used) (by omega)) fun g1 n1 hg1 hn1=>?_)|refine zaI.i (zmy (uses:=uses) (by simp only[go_sem]) ⟨ha0,ha1⟩ (by omega) ?_)|refine And.intro ?_ ?_|exact True.intro|refine rq fun _=>?_|refine rf fun _=>?_|simp only[go_sem,hfT,h1,h2,hf,hu2,hk,hPt,hNS,zax,zab,zam,zad,zaa,Tryz.f12])
     refine zao hm hZ3 12000 (lsw [184,256] [270,1000028,1000044,1000063,1000064]) (ι:=zep (KF+1) (g1+1) fun _=>True)
      ⟨fun q=>⟨frL [(0,.ptr (7,0) 0),(3,.ptr (12003,1) 0),(4,.ptr (12004,2) 0),(5,.fz (.b false)),(6,.fz (.b false)),(11,.fz (.i .i64 i)),(15,.ptr (12015,q1+1) 0),(16,.fz (.b pt)),(20,.fz (.s (nmAt q.i))),(21,.fz (.sl (NS.map enc))),(22,.fz (.i .i64 q.i))],
       hpL [((12003,1),some ⟨[.fz (.sl (b.list.map enc)),.arr (36007,g1) 1 0 b.used.length,.fz (.sl (b.seen.map enc)),.fz (.i .i64 b.rounds)],true,false⟩),((36007,g1),some ⟨(b.used.map (D.fz∘enc)).set i (.fz (.b true)),false,b.used.isEmpty⟩),
        ((12015,q1+1),some ⟨[.fz (.i .i64 pq.kind),.fz (.s pq.name.l),.fz (.sl (pq.words.map enc)),.fz (.sl (pq.subs.map enc))],true,false⟩),((12004,2),some ⟨[.fz (.i .i64 0),.fz (.i .i64 0),.fz (.i .i64 0),.fz (.s []),.full []],true,false⟩),((7,0),some ⟨[.fz (.i .i64 uses),.fz (.i .i64 (a+1))],true,false⟩)],q.m⟩,fun q=>KF+1-q.i⟩
      ⟨0,n1,by omega,by omega,trivial⟩ (by kernel_rfl) ?_ ?_
     ·refine zai ?_ ?_ ?_<;>simp only[go_sem,hn0]
      all_goals first|done|rfl|omega|(refine⟨?_,?_⟩<;>omega)
     rintro⟨k,m2,hk2,hm2,_⟩
     try simp only at hk2 hm2
     have ei0:(zs5 0).l=zaP 0:=ze4 0
     have ei1:(zs5 ((k:Int))).l=zaP k:=ze4 k
     have hdl0:=zcP 0
     have hdl1:=zcP k
     have hK2:(0:Int)≤k∧(k:Int)≤1000000000000:=by omega
     cases k with
     |zero=>
      repeat'(first|refine zaj.i hK2 fun _=>?_|refine And.intro ?_ ?_|exact True.intro|refine rq fun _=>?_|refine rf fun _=>?_|simp only[go_sem,hn0,ei0,zax,zab,zam,zad,zaa,Tryz.f12])
      all_goals refine⟨⟨1,m2,by omega,by omega,trivial⟩,by simp only;omega,?_⟩
      all_goals refine zai ?_ ?_ ?_<;>simp only[go_sem,hns,zb2]
      all_goals first|done|rfl|omega
     |succ k=>
      have hne:((zb2 k).l=[])=False:=eq_false (by unfold zb2;simp)
      rcases Nat.lt_or_ge k KF with h3|h3
      ·have hin:(zb2 k∈NS)=True:=eq_true (hf3 k h3)
       have hK3:(0:Int)≤(k:Int)+1∧(k:Int)+1≤1000000000000:=by omega
       have ei2:(zs5 ((k:Int)+1)).l=zaP (k+1):=ze4 (k+1)
       repeat'(first|refine zaj.i hK2 fun _=>?_|refine zaj.i hK3 fun _=>?_|refine And.intro ?_ ?_|exact True.intro|refine rq fun _=>?_|refine rf fun _=>?_|simp only[go_sem,hns,hne,hin,ei2,zax,zab,zam,zad,zaa,Tryz.f12])
       all_goals refine⟨⟨k+2,m2,by omega,by omega,trivial⟩,by simp only;omega,?_⟩
       all_goals refine zai ?_ ?_ ?_<;>simp only[go_sem,hns,zb2]
       all_goals first|done|rfl|omega|(exact congrArg (fun x:Int=>D.fz (FD.i .i64 x)) (by omega))
      ·obtain rfl:k=KF:=by omega
       have hin:(zb2 k∈NS)=False:=eq_false hf2
       have hns2:=hns k
       have hib:=zs4 (t:=pt) (nm:=zb2 k) hqa hab has
       have hig:zof pq pt (zb2 k)=zbJ pq pt (zb2 k):=rfl
       have hip2:zkV pq pt (zb2 k):=hip
       obtain⟨I,hI⟩:∃I,zbJ pq pt (zb2 k)=I:=⟨_,rfl⟩
       rw[hI]at hib hig hP3
       obtain⟨B',hB'⟩:∃B',zbS (zb6 b i) [I]=B':=⟨_,rfl⟩
       have hok':zb9 uses B' (a+1):=by
        rw[←hB']
        exact(ko.out.mark i).add (fs:=[I]) (fun y hy=>by rw[List.mem_singleton.1 hy];exact hib) rfl (by omega)
       rw[hB']at hP3
       obtain⟨r,hr⟩:∃r,rec B' (a+1)=r:=⟨_,rfl⟩
       rw[hr]at hP3
       have hrun:=ki.out B' (a+1) hok' (by omega)
       rw[hr]at hrun
       obtain⟨c,hc⟩:∃c,zb2 k=c:=⟨_,rfl⟩
       rw[hc]at hne hin hig hip2 hP3 hns2
       repeat'(first|refine zaj.i hip2 fun _=>?_|refine zae (id:=28) hm hZ3 12000 (lsw [184,256] [270,1000028,1000044,1000063,1000064]) zuw (by kernel_rfl) (by kernel_rfl) ?_|refine zaI.i (zF5 (b:=b) (i:=i) (fs:=[I]) h2 ⟨by omega,by omega,by omega,by simp⟩ hsn (by simp only[go_sem]) (.inr (by simp only[List.map_cons,List.map_nil,zaO])) hB' ?_)|refine zaI.i (zcv (T:=7) (xs:=[enc B']) (cs:=[.i .i64 uses,.i .i64 (a+1)]) rfl hrun (by simp only[go_sem]) ?_)|refine And.intro ?_ ?_|exact True.intro|refine rq fun _=>?_|refine rf fun _=>?_|simp only[go_sem,zuw,hns2,hne,hin,hig,zax,zab,zam,zad,zaa,Tryz.f12])
       all_goals(
        rw[kq.out,←hP3]
        refine⟨?_,?_⟩
        ·simp only[go_sem,zaU,ziy]
        ·simp only[go_sem,zaU,ziy])
   ·have hP2:(match zb7 2 (b.list.drop 0) (b.used.drop 0) 0 with
     |some i=>zb5 rec b a i (b.list.getD i zbk)
     |none=>zeN rec b a K (zwQ.drop 3))=V:=hP
    obtain⟨X,hX⟩:∃X,zb7 2 (b.list.drop 0) (b.used.drop 0) 0=X:=⟨_,rfl⟩
    rw[hX]at hP2
    repeat'(first|refine And.intro ?_ ?_|exact True.intro|refine rq fun _=>?_|refine rf fun _=>?_|simp only[go_sem,zax,zab,zam,zad,zaa,Tryz.f12])
    refine zao hm hZ3 12000 (lsw [184,256] [270,1000028,1000044,1000063,1000064]) (ι:=zep b.list.length q0 fun i=>zb7 2 (b.list.drop i) (b.used.drop i) i=X)
     ⟨fun q=>⟨frL [(0,.ptr (7,0) 0),(3,.ptr (12003,1) 0),(4,.ptr (12004,2) 0),(5,.fz (.b false)),(6,.fz (.b false)),(10,.fz (.i .i64 2)),(55,.full [.i .i64 1,.i .i64 4,.i .i64 2]),(56,.fz (.i .i64 3)),(57,.fz (.i .i64 2)),(62,.fz (.sl (b.list.map enc))),(63,.fz (.i .i64 b.list.length)),(64,.fz (.i .i64 q.i))],hpL [((12003,1),some ⟨[.fz (.sl (b.list.map enc)),.fz (.sl (b.used.map enc)),.fz (.sl (b.seen.map enc)),.fz (.i .i64 b.rounds)],true,false⟩),((12004,2),some ⟨[.fz (.i .i64 0),.fz (.i .i64 0),.fz (.i .i64 0),.fz (.s []),.full []],true,false⟩),((7,0),some ⟨[.fz (.i .i64 uses),.fz (.i .i64 a)],true,false⟩)],q.m⟩,fun q=>b.list.length-q.i⟩
     ⟨0,q0,by omega,by omega,hX⟩ (by kernel_rfl) ?_ ?_
    ·refine zai ?_ ?_ ?_<;>simp only[go_sem]
     all_goals first|done|rfl|omega
    rintro⟨i,q1,hi,hq1,hE⟩
    try simp only at hi hq1 hE
    rcases Nat.lt_or_ge i b.list.length with h1|h1
    rotate_left
    ·rw[zef h1]at hE
     rw[←hE]at hP2
     simp only at hP2
     obtain rfl:i=b.list.length:=by omega
     repeat'(first|refine And.intro ?_ ?_|exact True.intro|refine rq fun _=>?_|refine rf fun _=>?_|simp only[go_sem,Nat.lt_irrefl,zax,zab,zam,zad,zaa,Tryz.f12])
     all_goals refine⟨⟨3,q1,by omega,by omega,hP2⟩,by simp only;omega,?_⟩
     all_goals refine zai ?_ ?_ ?_<;>simp only[go_sem]
     all_goals first|done|rfl|omega
    have hul:=ko.out.ul
    have h2:i<b.used.length:=by omega
    obtain⟨f,hf⟩:∃f,b.list[i]=f:=⟨_,rfl⟩
    obtain⟨u,hu2⟩:∃u,b.used[i]=u:=⟨_,rfl⟩
    have hfb:brF f:=ko.out.br f (by rw[←hf];exact List.getElem_mem h1)
    rw[zdn h1 h2,hf,hu2]at hE
    obtain⟨k,hk⟩:∃k,(zag f).1=k:=⟨_,rfl⟩
    rw[hk]at hE
    cases u with
    |true=>
     rw[if_neg (by simp)]at hE
     repeat'(first|refine And.intro ?_ ?_|exact True.intro|refine rq fun _=>?_|refine rf fun _=>?_|simp only[go_sem,h1,h2,hf,hu2,hk,zax,zab,zam,zad,zaa,Tryz.f12])
     all_goals refine⟨⟨i+1,q1+1,by omega,by omega,hE⟩,by simp only;omega,?_⟩
     all_goals refine zai ?_ ?_ ?_<;>simp only[go_sem]
     all_goals first|done|rfl|omega
    |false=>
     by_cases hkw:k=2
     rotate_left
     ·rw[if_neg (by simp[hkw])]at hE
      have hkw':(k=2)=False:=eq_false hkw
      repeat'(first|refine zaj.i hfb fun _=>?_|refine And.intro ?_ ?_|exact True.intro|refine rq fun _=>?_|refine rf fun _=>?_|simp only[go_sem,h1,h2,hf,hu2,hk,hkw',zax,zab,zam,zad,zaa,Tryz.f12])
      all_goals refine⟨⟨i+1,q1+1,by omega,by omega,hE⟩,by simp only;omega,?_⟩
      all_goals refine zai ?_ ?_ ?_<;>simp only[go_sem]
      all_goals first|done|rfl|omega
     subst hkw
     rw[if_pos ⟨rfl,rfl⟩]at hE
     rw[←hE]at hP2
     simp only at hP2
     have hfg:b.list.getD i zbk=f:=by rw[List.getD_eq_getElem?_getD,List.getElem?_eq_getElem h1,hf];rfl
     rw[hfg]at hP2
     obtain⟨pb1,pb2,pb3,pb4⟩:=zcH hfb
     obtain⟨po,pq,pt,hPt⟩:∃o q t,zag f=(2,o,q,t):=⟨(zag f).2.1,(zag f).2.2.1,(zag f).2.2.2,by rw[←hk]⟩
     rw[hPt]at pb1 pb2 pb3 pb4
     simp only at pb1 pb2 pb3 pb4
     unfold zb5 at hP2
     rw[hPt]at hP2
     have hP3:(if(2:Int)=1 then _ else if(2:Int)=4 then _ else zeL rec (zb6 b i) i po [] a)=V:=hP2
     rw[if_neg (by decide),if_neg (by decide)]at hP3
     have hvi:b.used.isEmpty=false∧i+1≤b.used.length:=⟨by cases hb:b.used with|nil=>rw[hb]at h2;simp at h2|cons=>rfl,by omega⟩
     have hsn:∀s∈b.seen,s.length≤1000000:=fun s hs=>by have:=ko.out.ss s hs;omega
     have hsl:=ko.out.sl
     obtain⟨U,hU⟩:∃U,b.used.set i true=U:=⟨_,rfl⟩
     have hUl:U.length=b.used.length:=by rw[←hU,List.length_set]
     have hUe:U.isEmpty=false:=by
      cases hb:U with
      |nil=>rw[hb]at hUl;simp at hUl;omega
      |cons=>rfl
     have hUc:(b.used.map (D.fz∘enc)).set i (.fz (.b true))=zaf (U.map enc):=by
      rw[zaQ,←hU,List.map_set];rfl
     have em:zb6 b i=⟨b.list,U,b.seen,b.rounds⟩:=by rw[←hU];rfl
     obtain⟨b1,hb1⟩:∃b1,zb6 b i=b1:=⟨_,rfl⟩
     rw[hb1]at hP3 em
     have e1:enc b1= .agg [.sl (b.list.map enc),.sl (U.map enc),.sl (b.seen.map enc),.i .i64 b.rounds]:=by rw[em];rfl
     have hb1l:b1.list=b.list:=by rw[em]
     have hb1u:b1.used=U:=by rw[em]
     have hb1s:b1.seen=b.seen:=by rw[em]
     repeat'(first|refine zaj.i hfb fun _=>?_|refine zaj.i hvi fun _=>?_|refine zaI.i (zd6 (cs:=b.used.map enc) (xs:=[FD.sl (b.used.map enc)]) rfl (zir (l:=b.used) (by omega)) fun g1 n1 hg1 hn1=>?_)|refine And.intro ?_ ?_|exact True.intro|refine rq fun _=>?_|refine rf fun _=>?_|simp only[go_sem,h1,h2,hf,hu2,hk,hPt,zax,zab,zam,zad,zaa,Tryz.f12])
     refine zao hm hZ3 12000 (lsw [184,256] [270,1000028,1000044,1000063,1000064]) (ι:=zDV po.length (g1+1) fun j subs a'=>zeL rec b1 i (po.drop j) subs a'=V∧a≤a'∧a'≤300∧subs.length=j)
      ⟨fun q=>⟨frL [(0,.ptr (7,0) 0),(3,.ptr (12003,1) 0),(4,.ptr (12004,2) 0),(5,.fz (.b false)),(6,.fz (.b false)),(11,.fz (.i .i64 i)),(26,.ow (12184,q.g) 5 (q.subs.map enc)),(158,.fz (.sl (po.map enc))),(159,.fz (.i .i64 po.length)),(160,.fz (.i .i64 q.i))],
       hpL [((12003,1),some ⟨[.fz (.sl (b.list.map enc)),.fz (.sl (U.map enc)),.fz (.sl (b.seen.map enc)),.fz (.i .i64 b.rounds)],true,false⟩),((12004,2),some ⟨[.fz (.i .i64 0),.fz (.i .i64 0),.fz (.i .i64 0),.fz (.s []),.full []],true,false⟩),((7,0),some ⟨[.fz (.i .i64 uses),.fz (.i .i64 q.a)],true,false⟩),((12184,q.g),some tok)],q.m⟩,fun q=>po.length-q.i⟩
      ⟨0,[],a,n1,n1+1,by omega,by omega,by omega,⟨hP3,by omega,by omega,rfl⟩⟩ (by kernel_rfl) ?_ ?_
     ·refine zbl [] [(12184,n1)] [((36007,g1),U.map enc)] ?_ ?_ ?_ ?_ ?_<;>simp only[go_sem,hUc,hUl,hvi.1]
      all_goals first|done|rfl|omega|(refine⟨?_,?_⟩<;>omega)
     rintro⟨j,subs,a',g,m',hj,hg,hm',hB0,hB1,hB2,hB3⟩
     try simp only at hj hg hm' hB0 hB1 hB2 hB3
     rcases Nat.lt_or_ge j po.length with h3|h3
     rotate_left
     ·have hB9:=hB0
      rw[List.drop_eq_nil_of_le h3,zeL]at hB9
      obtain rfl:j=po.length:=by omega
      repeat'(first|refine And.intro ?_ ?_|exact True.intro|refine rq fun _=>?_|refine rf fun _=>?_|simp only[go_sem,Nat.lt_irrefl,zax,zab,zam,zad,zaa,Tryz.f12])
      all_goals(
       rw[kq.out,←hB9]
       refine⟨?_,?_⟩
       ·simp only[go_sem,zaU]
       ·simp only[go_sem,zaU])
     have hB9:=hB0
     rw[zjz h3]at hB9
     obtain⟨x,hx⟩:∃x,po[j]=x:=⟨_,rfl⟩
     have hxb:brF x:=pb1 x (by rw[←hx];exact List.getElem_mem h3)
     rw[hx]at hB9
     by_cases hfu:300<a'+1
     ·rw[if_pos hfu]at hB9
      have hfT:(300<a'+1)=True:=eq_true hfu
      repeat'(first|refine zaI.i (zmy (uses:=uses) (by simp only[go_sem]) ⟨(by omega),hB2⟩ (by omega) ?_)|refine And.intro ?_ ?_|exact True.intro|refine rq fun _=>?_|refine rf fun _=>?_|simp only[go_sem,hfT,h3,hx,zax,zab,zam,zad,zaa,Tryz.f12])
      all_goals(
       rw[kq.out,←hB9]
       refine⟨?_,?_⟩
       ·simp only[go_sem,zaU,zjR,zbK]
       ·simp only[go_sem,zaU,zjR,zbK])
     rw[if_neg hfu]at hB9
     have hfT:(300<a'+1)=False:=eq_false hfu
     obtain⟨B',hB'⟩:∃B',zbS b1 [x]=B':=⟨_,rfl⟩
     have hok':zb9 uses B' (a'+1):=by
      rw[←hB',←hb1]
      exact((ko.out.mark i).mono hB1 hB2).add (fs:=[x]) (fun y hy=>by rw[List.mem_singleton.1 hy];exact hxb) rfl (by omega)
     rw[hB']at hB9
     obtain⟨r,hr⟩:∃r,rec B' (a'+1)=r:=⟨_,rfl⟩
     rw[hr]at hB9
     have hrun:=ki.out B' (a'+1) hok' (by omega)
     rw[hr]at hrun
     have had:=kd.out B' (a'+1) (by omega)
     rw[hr]at had
     obtain⟨had1,had2⟩:=had
     repeat'(first|refine zaI.i (zmy (uses:=uses) (by simp only[go_sem]) ⟨(by omega),hB2⟩ (by omega) ?_)|refine And.intro ?_ ?_|exact True.intro|refine rq fun _=>?_|refine rf fun _=>?_|simp only[go_sem,hfT,h3,hx,zax,zab,zam,zad,zaa,Tryz.f12])
     refine zaI.i (zAz (b:=b1) (fs:=[x]) (by rw[hb1l,hb1u,hb1s,hUl];exact⟨by omega,by omega,by omega,by simp⟩) (by rw[hb1s];exact hsn) (by rw[e1];simp only[List.map_cons,List.map_nil,zaO];rfl) ?_)
     rw[hB']
     repeat'(first|refine And.intro ?_ ?_|exact True.intro|refine rq fun _=>?_|refine rf fun _=>?_|simp only[go_sem,zax,zab,zam,zad,zaa,Tryz.f12])
     refine zaI.i (zcv (T:=7) (xs:=[enc B']) (cs:=[.i .i64 uses,.i .i64 (a'+1)]) rfl hrun (by simp only[go_sem]) ?_)
     cases hrk:r.ok with
     |false=>
      rw[if_pos hrk]at hB9
      repeat'(first|refine And.intro ?_ ?_|exact True.intro|refine rq fun _=>?_|refine rf fun _=>?_|simp only[go_sem,hrk,zax,zab,zam,zad,zaa,Tryz.f12])
      all_goals(
       rw[kq.out,←hB9]
       refine⟨?_,?_⟩
       ·simp only[go_sem,zaU,zbK]
       ·simp only[go_sem,zaU,zbK])
     |true=>
      rw[if_neg (by rw[hrk];simp)]at hB9
      repeat'(first|refine And.intro ?_ ?_|exact True.intro|refine rq fun _=>?_|refine rf fun _=>?_|simp only[go_sem,hrk,zax,zab,zam,zad,zaa,Tryz.f12])
      all_goals refine⟨⟨j+1,subs++[r.p],r.added,m'+2,m'+3,by omega,by omega,by omega,⟨hB9,by omega,had2 hrk,by simp[hB3]⟩⟩,by simp only;omega,?_⟩
      all_goals refine zbl [] [] [] ?_ ?_ ?_ ?_ ?_<;>simp only[go_sem,List.map_append,zaU]
      all_goals first|done|rfl|omega
  ·obtain rfl:w=3:=by omega
   have hG:zdN rec uses b a=V:=hK.trans hP
   unfold zdN at hG
   by_cases hru:b.rounds=uses
   ·rw[if_pos hru]at hG
    have hrT:(b.rounds=uses)=True:=eq_true hru
    repeat'(first|refine zae (id:=44) hm hZ3 12000 (lsw [184,256] [270,1000028,1000044,1000063,1000064]) zlu (by kernel_rfl) (by kernel_rfl) ?_|refine And.intro ?_ ?_|exact True.intro|refine rq fun _=>?_|refine rf fun _=>?_|simp only[go_sem,zlu,hrT,Int.lt_irrefl,zax,zab,zam,zad,zaa,Tryz.f12])
    all_goals(
     rw[kq.out,←hG]
     refine⟨?_,?_⟩
     ·simp only[go_sem,zaU,zbK]
     ·simp only[go_sem,zaU,zbK])
   rw[if_neg hru]at hG
   have hrT:(b.rounds=uses)=False:=eq_false hru
   have hsn:∀s∈b.seen,s.length≤1000000:=fun s hs=>by have:=ko.out.ss s hs;omega
   have hsl:=ko.out.sl
   have hul:=ko.out.ul
   obtain⟨NS,hNS⟩:∃NS,za6 b.list=NS:=⟨_,rfl⟩
   obtain⟨CS,hCS0⟩:∃CS,zc6 b.list=CS:=⟨_,rfl⟩
   rw[hCS0]at hG
   obtain⟨c0,hc0⟩:∃c0:Brn,c0=⟨b.list,b.used,b.seen,b.rounds+1⟩:=⟨_,rfl⟩
   rw[←hc0]at hG
   have hS0:zDT uses a b.list.length ⟨c0,[],a⟩:=by
    refine⟨?_,by rw[hc0];exact Nat.le_refl _,by simp⟩
    rw[hc0]
    exact⟨ko.out.br,ko.out.ll,ko.out.ul,ko.out.sl,ko.out.ss,by simp only;omega,by simp only;omega,ko.out.u,ko.out.a0,ko.out.a1⟩
   have hcs:(((NS.length:Int)=0)=True∧CS=[⟨[99,48]⟩])∨(((NS.length:Int)=0)=False∧CS=NS):=by
    rw[←hCS0]
    unfold zc6
    rw[hNS]
    by_cases h:NS=[]
    ·left;rw[if_pos h,h];exact⟨by simp,rfl⟩
    ·right;rw[if_neg h];exact⟨eq_false fun h2=>h (List.eq_nil_of_length_eq_zero (by omega)),rfl⟩
   have hcb:CS.length≤1000000000:=by
    have hbl:b.list.length≤1000:=by omega
    have hbm:b.list.length*1000000≤1000*1000000:=Nat.mul_le_mul_right _ hbl
    have hnl:=zmT ko.out.br
    rw[hNS]at hnl
    rcases hcs with⟨_,h⟩|⟨_,h⟩
    ·rw[h];simp
    ·rw[h];omega
   rcases hcs with⟨hnT,hCS⟩|⟨hnT,hCS⟩
   all_goals(
    repeat'(first|refine zaj.i hcl fun _=>?_|refine zae (id:=44) hm hZ3 12000 (lsw [184,256] [270,1000028,1000044,1000063,1000064]) zlu (by kernel_rfl) (by kernel_rfl) ?_|refine And.intro ?_ ?_|exact True.intro|refine rq fun _=>?_|refine rf fun _=>?_|simp only[go_sem,zlu,hrT,hNS,hnT,zax,zab,zam,zad,zaa,Tryz.f12])
    refine zaI.i (zAy (zrH CS c0 b.list 0) (b:=b) (B':=b) (fs:=[]) ⟨by omega,by omega,by omega,by simp⟩ hsn zu9 rfl fun r g n1 h1 h2 h3 h4=>?_)
    repeat'(first|refine And.intro ?_ ?_|exact True.intro|refine rq fun _=>?_|refine rf fun _=>?_|simp only[go_sem,hNS,hnT,zax,zab,zam,zad,zaa,Tryz.f12])
    refine zao hm hZ3 12000 (lsw [184,256] [270,1000028,1000044,1000063,1000064]) (ι:=zwX b.list.length (n1+2) fun i s=>zmz rec (zgH CS (b.list.drop i) i s)=V∧zDT uses a b.list.length s)
     ⟨fun q=>⟨frL [(0,.ptr (7,0) 0),(3,.ptr (12003,1) 0),(4,.ptr (12004,2) 0),(5,.fz (.b false)),(6,.fz (.b false)),(32,.fz (.sl (CS.map enc))),(33,.arr (12270,q.z) 5 0 q.s.steps.length),(34,.ptr (12034,n1) 0),(213,.fz (.sl (b.list.map enc))),(214,.fz (.i .i64 b.list.length)),(215,.fz (.i .i64 q.i))],hpL [((12003,1),some ⟨[.fz (.sl (b.list.map enc)),.fz (.sl (b.used.map enc)),.fz (.sl (b.seen.map enc)),.fz (.i .i64 b.rounds)],true,false⟩),((12004,2),some ⟨[.fz (.i .i64 0),.fz (.i .i64 0),.fz (.i .i64 0),.fz (.s []),.full []],true,false⟩),((7,0),some ⟨[.fz (.i .i64 uses),.fz (.i .i64 q.s.added)],true,false⟩),((12034,n1),some ⟨[.fz (.sl (q.s.c.list.map enc)),.fz (.sl (q.s.c.used.map enc)),.arr (13043,q.r) 1 0 q.s.c.seen.length,.fz (.i .i64 q.s.c.rounds)],true,false⟩),((13043,q.r),some ⟨zbq (zrH CS q.s.c (b.list.drop q.i) q.i) q.g q.s.c.seen,false,q.s.c.seen.isEmpty⟩),((43007,q.g),some tok),((12270,q.z),some ⟨zaf (q.s.steps.map enc),false,q.s.steps.isEmpty⟩)],q.m⟩,fun q=>b.list.length-q.i⟩
     ⟨0,⟨c0,[],a⟩,r,g,n1+1,n1+2,by omega,by omega,by omega,by omega,by omega,⟨hG,hS0⟩⟩ (by kernel_rfl) ?_ ?_
    ·refine zbl [] [(12270,n1+1)] [] ?_ ?_ ?_ ?_ ?_<;>simp only[go_sem,hCS,hc0,List.drop_zero]
     all_goals repeat'(first|refine And.intro ?_ ?_|omega|rfl|exact zvq (by omega)|simp only[go_sem])
     all_goals trace_state
    rintro⟨i,⟨c,st,ad⟩,r,g,z,m2,hi,hr,hg,hz,hm2,hq,hS⟩
    try simp only at hi hr hg hz hm2 hq hS
    obtain⟨hS1,hS2,hS3⟩:=hS
    try simp only at hS1 hS2 hS3
    have hsa:=hS1.a0
    have hsb:=hS1.a1
    have hcl2:=hS1.ll
    have hcu:=hS1.ul
    have hcs2:=hS1.sl
    rcases Nat.lt_or_ge i b.list.length with h5|h5
    ·obtain⟨f,hf⟩:∃f,b.list[i]=f:=⟨_,rfl⟩
     have hfb:brF f:=hcl.1 f (by rw[←hf];exact List.getElem_mem h5)
     have hq9:=hq
     rw[zmA h5,hf]at hq9
     obtain⟨k,hk⟩:∃k,(zag f).1=k:=⟨_,rfl⟩
     by_cases hk3:k=3
     rotate_left
     ·have hk3':(k=3)=False:=eq_false hk3
      rw[hk,if_neg hk3]at hq9
      have hnx:=zyY (CS:=CS) (c:=c) (k:=i) h5 (by rw[hf,hk];exact hk3)
      repeat'(first|refine zaj.i hfb fun _=>?_|refine And.intro ?_ ?_|exact True.intro|refine rq fun _=>?_|refine rf fun _=>?_|simp only[go_sem,h5,hf,hk,hk3',zax,zab,zam,zad,zaa,Tryz.f12])
      all_goals refine⟨⟨i+1,⟨c,st,ad⟩,r,g,z,m2+1,by omega,by omega,by omega,by omega,by omega,⟨hq9,hS1,hS2,hS3⟩⟩,by simp only;omega,?_⟩
      all_goals refine zai ?_ ?_ ?_<;>simp only[go_sem,hnx]
      all_goals first|done|rfl|omega
     subst hk3
     rw[if_pos hk]at hq9
     obtain⟨po,pq,pt,hPt⟩:∃o q t,zag f=(3,o,q,t):=⟨(zag f).2.1,(zag f).2.2.1,(zag f).2.2.2,by rw[←hk]⟩
     obtain⟨pb1,pb2,pb3,pb4⟩:=zcH hfb
     rw[hPt]at pb4 hq9
     obtain⟨qa,hqa,hab,has⟩:=pb4 (by simp)
     try simp only at hq9 hqa
     have hnx:=zwg (CS:=CS) (c:=c) (k:=i) h5 (by rw[hf,hPt])
     have hq8:zmz rec ((ziH pq pt i (CS.drop 0) ⟨c,st,ad⟩).bind (zgH CS (b.list.drop (i+1)) (i+1)))=V:=hq9
     repeat'(first|refine zaj.i hfb fun _=>?_|refine And.intro ?_ ?_|exact True.intro|refine rq fun _=>?_|refine rf fun _=>?_|simp only[go_sem,h5,hf,hk,hPt,zax,zab,zam,zad,zaa,Tryz.f12])
     refine zao hm hZ3 12000 (lsw [184,256] [270,1000028,1000044,1000063,1000064]) (ι:=zwX CS.length (m2+2) fun j s=>zmz rec ((ziH pq pt i (CS.drop j) s).bind (zgH CS (b.list.drop (i+1)) (i+1)))=V∧zDT uses a b.list.length s)
      ⟨fun q=>⟨frL [(0,.ptr (7,0) 0),(3,.ptr (12003,1) 0),(4,.ptr (12004,2) 0),(5,.fz (.b false)),(6,.fz (.b false)),(32,.fz (.sl (CS.map enc))),(33,.arr (12270,q.z) 5 0 q.s.steps.length),(34,.ptr (12034,n1) 0),(213,.fz (.sl (b.list.map enc))),(214,.fz (.i .i64 b.list.length)),(35,.fz (.i .i64 i)),(39,.ptr (12039,m2+1) 0),(40,.fz (.b pt)),(215,.fz (.i .i64 i)),(230,.fz (.sl (CS.map enc))),(231,.fz (.i .i64 CS.length)),(232,.fz (.i .i64 q.i))],
       hpL [((12003,1),some ⟨[.fz (.sl (b.list.map enc)),.fz (.sl (b.used.map enc)),.fz (.sl (b.seen.map enc)),.fz (.i .i64 b.rounds)],true,false⟩),((12004,2),some ⟨[.fz (.i .i64 0),.fz (.i .i64 0),.fz (.i .i64 0),.fz (.s []),.full []],true,false⟩),((7,0),some ⟨[.fz (.i .i64 uses),.fz (.i .i64 q.s.added)],true,false⟩),((12034,n1),some ⟨[.fz (.sl (q.s.c.list.map enc)),.fz (.sl (q.s.c.used.map enc)),.arr (13043,q.r) 1 0 q.s.c.seen.length,.fz (.i .i64 q.s.c.rounds)],true,false⟩),((13043,q.r),some ⟨zbq (zrI CS q.s.c (CS.drop q.i) i (b.list.drop (i+1))) q.g q.s.c.seen,false,q.s.c.seen.isEmpty⟩),((43007,q.g),some tok),((12270,q.z),some ⟨zaf (q.s.steps.map enc),false,q.s.steps.isEmpty⟩),((12039,m2+1),some ⟨[.fz (.i .i64 pq.kind),.fz (.s pq.name.l),.fz (.sl (pq.words.map enc)),.fz (.sl (pq.subs.map enc))],true,false⟩)],q.m⟩,fun q=>CS.length-q.i⟩
      ⟨0,⟨c,st,ad⟩,r,g,z,m2+2,by omega,by omega,by omega,by omega,by omega,⟨hq8,hS1,hS2,hS3⟩⟩ (by kernel_rfl) ?_ ?_
     ·refine zai ?_ ?_ ?_<;>simp only[go_sem,hnx,List.drop_zero]
      all_goals first|done|rfl|omega
     rintro⟨j,⟨c,st,ad⟩,r,g,z,m3,hj,hr,hg,hz,hm3,hq,hS⟩
     try simp only at hj hr hg hz hm3 hq hS
     obtain⟨hS1,hS2,hS3⟩:=hS
     try simp only at hS1 hS2 hS3
     have hsa:=hS1.a0
     have hsb:=hS1.a1
     have hcl2:=hS1.ll
     have hcu:=hS1.ul
     have hcs2:=hS1.sl
     rcases Nat.lt_or_ge j CS.length with h6|h6
     ·obtain⟨w,hx⟩:∃w,CS[j]=w:=⟨_,rfl⟩
      have his:i<c.seen.length:=by omega
      obtain⟨Si,hSi⟩:∃Si,c.seen[i]=Si:=⟨_,rfl⟩
      have hgD:c.seen.getD i []=Si:=by rw[List.getD_eq_getElem?_getD,List.getElem?_eq_getElem his,hSi];rfl
      have hq9:=hq
      rw[zmB h6,hx]at hq9
      simp only[hgD]at hq9
      obtain⟨kk,hkk⟩:∃kk,zrI CS c (CS.drop j) i (b.list.drop (i+1))=kk:=⟨_,rfl⟩
      have hrow:i+1≤(zbq kk g c.seen).length∧c.seen.isEmpty=false:=⟨by rw[zaV];omega,by cases hb:c.seen with|nil=>rw[hb]at his;simp at his|cons=>rfl⟩
      by_cases hin:w∈Si
      ·rw[if_pos hin]at hq9
       have hinT:(w∈Si)=True:=eq_true hin
       have hnx:=zyZ (CS:=CS) (c:=c) (ws:=CS) (i:=i) (fs:=b.list.drop (i+1)) h6 (by rw[hx,hgD];exact hin)
       rw[hkk]at hnx
       have hgt:=zej (k:=kk) (g:=g) his
       rw[hSi]at hgt
       by_cases hik:i=kk
       ·rw[if_pos hik]at hgt
        repeat'(first|refine zaj.i hrow fun _=>?_|refine And.intro ?_ ?_|exact True.intro|refine rq fun _=>?_|refine rf fun _=>?_|simp only[go_sem,hkk,hx,hinT,h6,hgt,zax,zab,zam,zad,zaa,Tryz.f12])
        all_goals refine⟨⟨j+1,⟨c,st,ad⟩,r,g,z,m3,by omega,by omega,by omega,by omega,by omega,⟨hq9,hS1,hS2,hS3⟩⟩,by simp only;omega,?_⟩
        all_goals refine zai ?_ ?_ ?_<;>simp only[go_sem,←hnx]
        all_goals first|done|rfl|omega
       ·rw[if_neg hik]at hgt
        repeat'(first|refine zaj.i hrow fun _=>?_|refine And.intro ?_ ?_|exact True.intro|refine rq fun _=>?_|refine rf fun _=>?_|simp only[go_sem,hkk,hx,hinT,h6,hgt,zax,zab,zam,zad,zaa,Tryz.f12])
        all_goals refine⟨⟨j+1,⟨c,st,ad⟩,r,g,z,m3,by omega,by omega,by omega,by omega,by omega,⟨hq9,hS1,hS2,hS3⟩⟩,by simp only;omega,?_⟩
        all_goals refine zai ?_ ?_ ?_<;>simp only[go_sem,←hnx]
        all_goals first|done|rfl|omega
      ·rw[if_neg hin]at hq9
       have hinT:(w∈Si)=False:=eq_false hin
       have hnx:=zwi (CS:=CS) (c:=c) (ws:=CS) (i:=i) (fs:=b.list.drop (i+1)) h6 (by rw[hx,hgD];exact hin)
       have hki:kk=i:=hkk.symm.trans hnx
       have hgt:=zej (k:=kk) (g:=g) his
       rw[hSi,if_pos hki.symm]at hgt
       by_cases hfu:300<ad+1
       ·rw[if_pos hfu]at hq9
        have hfT:(300<ad+1)=True:=eq_true hfu
        have hq7:zjR (ad+1)=V:=hq9
        repeat'(first|refine zaj.i hrow fun _=>?_|refine zaI.i (zmy (uses:=uses) (by simp only[go_sem]) ⟨hsa,hsb⟩ (by omega) ?_)|refine And.intro ?_ ?_|exact True.intro|refine rq fun _=>?_|refine rf fun _=>?_|simp only[go_sem,hfT,hkk,hx,hinT,h6,hgt,zax,zab,zam,zad,zaa,Tryz.f12])
        all_goals(
         rw[kq.out,←hq7]
         refine⟨?_,?_⟩
         ·simp only[go_sem,zaU,zjR,zbK]
         ·simp only[go_sem,zaU,zjR,zbK])
       rw[if_neg hfu]at hq9
       have hfT:(300<ad+1)=False:=eq_false hfu
       have hib:=zs4 (t:=pt) (nm:=w) hqa hab has
       have hig:zof pq pt w=zbJ pq pt w:=rfl
       have hip:zkV pq pt w:=⟨qa,hqa,hab.ft,by omega⟩
       obtain⟨I,hI⟩:∃I,zbJ pq pt w=I:=⟨_,rfl⟩
       rw[hI]at hib hig hq9
       obtain⟨S1,hSS⟩:∃S1,c.seen.set i (Si++[w])=S1:=⟨_,rfl⟩
       have hc1:saw c i w=⟨c.list,c.used,S1,c.rounds⟩:=by unfold saw;rw[hgD,hSS]
       have hok':zb9 uses (zbS ⟨c.list,c.used,S1,c.rounds⟩ [I]) (ad+1):=by rw[←hc1];exact hS1.saw his hib (by omega)
       have hc1n:S1.length=c.seen.length:=by rw[←hSS,List.length_set]
       rw[hc1]at hq9
       have hsw:∀id:Abs.Id,D.toFDs ((zbq kk g c.seen).set i (.ow id 1 (Si.map enc++[.s w.l])))=some (S1.map enc):=fun id=>by
        rw[←hSS]
        have:=zwA (k:=kk) (g:=g) (i:=i) (es:=1) (id:=id) (S:=c.seen) (x:=Si++[w]) his
        rw[List.map_append]at this
        exact this
       have hsn1:∀s∈S1,s.length≤1000000:=fun s hs=>by
        rw[←hSS]at hs
        rcases List.mem_or_eq_of_mem_set hs with h|h
        ·have:=hS1.ss s h;omega
        ·have:=hS1.ss Si (by rw[←hSi];exact List.getElem_mem his)
         rw[h,List.length_append,List.length_singleton];omega
       have hSl:Si.length≤1000:=by
        have:=hS1.ss Si (by rw[←hSi];exact List.getElem_mem his)
        omega
       obtain⟨B',hB'⟩:∃B',zbS ⟨c.list,c.used,S1,c.rounds⟩ [I]=B':=⟨_,rfl⟩
       have hBl:B'.list.length=c.list.length+1:=by rw[←hB'];unfold zbS;simp
       have hrow2:c.seen.isEmpty=false∧i+1≤(zbq kk g c.seen).length:=⟨hrow.2,hrow.1⟩
       have hst:st.length*5≤(zaf (st.map enc)).length∧fits (st.length+1) 64:=⟨by rw[zfM];exact Nat.le_refl _,zat (by omega) (by decide)⟩
       have hstk:(zaf (st.map enc)).take (st.length*5)=zaf (st.map enc):=List.take_of_length_le (by rw[zfM];exact Nat.le_refl _)
       have hse:c.seen.isEmpty=true→S1=[]:=fun h=>by rw[hrow.2]at h;cases h
       have hlen1:c.list.length≤100000∧c.used.length≤100000∧S1.length≤100000∧[I].length≤100000:=⟨by omega,by omega,by omega,by simp⟩
       rw[hB']at hq9 hok'
       repeat'(first|refine zaI.i (zD4 (zrI CS B' (CS.drop (j+1)) i (b.list.drop (i+1))) (b:=⟨c.list,c.used,S1,c.rounds⟩) (B':=B') (fs:=[I]) hlen1 hsn1 hB' (by simp only[go_sem]) hse (hsw (12256,m3)) hc1n.symm (by simp only[List.map_cons,List.map_nil,zaO]) fun r4 g4 n4 h11 h12 h13 h14=>?_)|refine zaj.i hrow fun _=>?_|refine zaj.i hrow2 fun _=>?_|refine zaj.i hst fun _=>?_|refine zaj.i hip fun _=>?_|refine zae (id:=63) hm hZ3 12000 (lsw [184,256] [270,1000028,1000044,1000063,1000064]) zux (by kernel_rfl) (by kernel_rfl) ?_|refine zae (id:=64) hm hZ3 12000 (lsw [184,256] [270,1000028,1000044,1000063,1000064]) zuy (by kernel_rfl) (by kernel_rfl) ?_|refine zaI.i (zmy (uses:=uses) (by simp only[go_sem]) ⟨hsa,hsb⟩ (by omega) ?_)|refine And.intro ?_ ?_|exact True.intro|refine rq fun _=>?_|refine rf fun _=>?_|simp only[go_sem,hstk,zux,zuy,hfT,hig,hkk,hx,hinT,h6,hgt,zax,zab,zam,zad,zaa,Tryz.f12])
       all_goals refine⟨⟨j+1,⟨B',st++[.mk 4 i 0 w []],ad+1⟩,r4,g4,n4,n4+1,by omega,by omega,by omega,by omega,by omega,⟨hq9,hok',by simp only;omega,by simp only[List.length_append,List.length_singleton];omega⟩⟩,by simp only;omega,?_⟩
       all_goals refine zai ?_ ?_ ?_<;>simp only[go_sem,List.map_append,zkW,zA0,Bool.and_false]
       all_goals first|done|rfl|omega
     ·have hq9:=hq
      rw[List.drop_eq_nil_of_le h6,ziH]at hq9
      have hq8:zmz rec (zgH CS (b.list.drop (i+1)) (i+1) ⟨c,st,ad⟩)=V:=hq9
      have hnx:=zwh (CS:=CS) (c:=c) (ws:=CS) (i:=i) (fs:=b.list.drop (i+1)) h6
      obtain rfl:j=CS.length:=by omega
      repeat'(first|refine And.intro ?_ ?_|exact True.intro|refine rq fun _=>?_|refine rf fun _=>?_|simp only[go_sem,Nat.lt_irrefl,zax,zab,zam,zad,zaa,Tryz.f12])
      all_goals refine⟨⟨i+1,⟨c,st,ad⟩,r,g,z,m3,by omega,by omega,by omega,by omega,by omega,⟨hq8,hS1,hS2,hS3⟩⟩,by simp only;omega,?_⟩
      all_goals refine zai ?_ ?_ ?_<;>simp only[go_sem,hnx]
      all_goals first|done|rfl|omega
    ·have hq9:=hq
     rw[List.drop_eq_nil_of_le h5,zgH]at hq9
     have hq8:(if st=[]then(⟨zbK,false,false,ad⟩:Res)else⟨zhM st (rec c ad).p,(rec c ad).ok,(rec c ad).lim,(rec c ad).added⟩)=V:=hq9
     obtain rfl:i=b.list.length:=by omega
     by_cases hst0:st=[]
     ·rw[if_pos hst0]at hq8
      have hstT:((st.length:Int)=0)=True:=eq_true (by rw[hst0];rfl)
      repeat'(first|refine And.intro ?_ ?_|exact True.intro|refine rq fun _=>?_|refine rf fun _=>?_|simp only[go_sem,hstT,Nat.lt_irrefl,zax,zab,zam,zad,zaa,Tryz.f12])
      all_goals(
       rw[kq.out,←hq8]
       refine⟨?_,?_⟩
       ·simp only[go_sem,zaU,zbK]
       ·simp only[go_sem,zaU,zbK])
     rw[if_neg hst0]at hq8
     have hsp:1≤st.length:=by
      cases hb:st with
      |nil=>exact absurd hb hst0
      |cons=>simp
     have hstT:((st.length:Int)=0)=False:=eq_false (by omega)
     obtain⟨rr,hr9⟩:∃rr,rec c ad=rr:=⟨_,rfl⟩
     have hrun:=ki.out c ad hS1 (by omega)
     rw[hr9]at hrun hq8
     have hve:c.seen.isEmpty=true→c.seen=[]:=fun h=>List.isEmpty_iff.1 h
     repeat'(first|refine zaI.i (zFN (c:=c) (k:=zrH CS c (b.list.drop b.list.length) b.list.length) (g:=g) (v:=c.seen.isEmpty) hrun (by simp only[go_sem]) hve (by simp only[go_sem]) ?_)|refine And.intro ?_ ?_|exact True.intro|refine rq fun _=>?_|refine rf fun _=>?_|simp only[go_sem,hstT,Nat.lt_irrefl,zax,zab,zam,zad,zaa,Tryz.f12])
     refine zao hm hZ3 12000 (lsw [184,256] [270,1000028,1000044,1000063,1000064]) (ι:=zAr st.length (m2+1) fun k tl p=>tl.length=st.length-k∧p=zhM (st.drop k) rr.p)
      ⟨fun q=>⟨frL [(0,.ptr (7,0) 0),(3,.ptr (12003,1) 0),(4,.ptr (12004,2) 0),(5,.fz (.b false)),(6,.fz (.b false)),(33,.arr (12270,z) 5 0 st.length),(43,.ptr (12043,m2) 0),(44,.fz (.b rr.ok)),(45,.fz (.b rr.lim)),(46,.fz (.i .i64 ((q.i:Int)-1)))],
       hpL [((12004,2),some ⟨[.fz (.i .i64 0),.fz (.i .i64 0),.fz (.i .i64 0),.fz (.s []),.full []],true,false⟩),((7,0),some ⟨[.fz (.i .i64 uses),.fz (.i .i64 rr.added)],true,false⟩),((12043,m2),some ⟨[.fz (.i .i64 q.p.kind),.fz (.i .i64 q.p.form),.fz (.i .i64 q.p.other),.fz (.s q.p.name.l),.fz (.sl (q.p.subs.map enc))],true,false⟩),
        ((12270,z),some ⟨zaf ((st.take q.i++q.tl).map enc),false,st.isEmpty⟩)],q.m⟩,fun q=>q.i⟩
      ⟨st.length,[],rr.p,m2+1,by omega,by omega,⟨by simp,by rw[List.drop_length];rfl⟩⟩ (by kernel_rfl) ?_ ?_
     ·refine zai ?_ ?_ ?_<;>simp only[go_sem,List.take_length,List.append_nil]
      all_goals first|done|rfl|omega
     rintro⟨k,tl,p,m4,hk,hm4,htl,hp⟩
     try simp only at hk hm4 htl hp
     cases k with
     |zero=>
      have hz0:((0:Int)≤0-1)=False:=eq_false (by omega)
      have hp0:zhM st rr.p=p:=by rw[hp];rfl
      have hq7:=hq8
      rw[hp0]at hq7
      repeat'(first|refine And.intro ?_ ?_|exact True.intro|refine rq fun _=>?_|refine rf fun _=>?_|simp only[go_sem,hz0,zax,zab,zam,zad,zaa,Tryz.f12])
      all_goals(
       rw[kq.out,←hq7]
       refine⟨?_,?_⟩
       ·simp only[go_sem,zaU]
       ·simp only[go_sem,zaU])
     |succ k=>
      have hs1:(k:Int)+1-1=k:=by omega
      have hs2:((0:Int)≤k)=True:=eq_true (by omega)
      have hk5:k<st.length:=by omega
      obtain⟨x,hx⟩:∃x,st[k]=x:=⟨_,rfl⟩
      obtain⟨FA,hFA⟩:∃FA,zaf ((st.take k).map enc)=FA:=⟨_,rfl⟩
      obtain⟨FT,hFT⟩:∃FT,zaf (tl.map enc)=FT:=⟨_,rfl⟩
      have hFl:FA.length=k*5:=by rw[←hFA,zfM,List.length_take];congr 1;omega
      have hspl:zaf (List.map enc (st.take (k+1))++List.map enc tl)=FA++(.fz (.i .i64 x.kind):: .fz (.i .i64 x.form):: .fz (.i .i64 x.other):: .fz (.s x.name.l):: .fz (.sl (x.subs.map enc))::FT):=by
       rw[List.take_succ_eq_append_getElem hk5,hx,List.map_append,List.append_assoc,zgb,hFA,zgb,hFT]
       rw[List.map_cons,List.map_nil,zaU]
       rfl
      have hrw:st.isEmpty=false∧k*5+4+1≤FA.length+(FT.length+1+1+1+1+1):=⟨by cases hb:st with|nil=>exact absurd hb hst0|cons=>rfl,by omega⟩
      have hrw2:k*5+5≤FA.length+(FT.length+1+1+1+1+1)∧st.isEmpty=false:=⟨by omega,hrw.1⟩
      have hset:∀y:D,(FA++(D.fz (.i .i64 x.kind)::D.fz (.i .i64 x.form)::D.fz (.i .i64 x.other)::D.fz (.s x.name.l)::D.fz (.sl (x.subs.map enc))::FT)).set (k*5+4) y=FA++(D.fz (.i .i64 x.kind)::D.fz (.i .i64 x.form)::D.fz (.i .i64 x.other)::D.fz (.s x.name.l)::y::FT):=fun y=>by
       rw[List.set_append_right _ _ (by omega),hFl,Nat.add_sub_cancel_left];rfl
      have hdr:∀y:D,(FA++(D.fz (.i .i64 x.kind)::D.fz (.i .i64 x.form)::D.fz (.i .i64 x.other)::D.fz (.s x.name.l)::y::FT)).drop (k*5)=D.fz (.i .i64 x.kind)::D.fz (.i .i64 x.form)::D.fz (.i .i64 x.other)::D.fz (.s x.name.l)::y::FT:=fun y=>by rw[←hFl,List.drop_left]
      repeat'(first|refine zaj.i hrw fun _=>?_|refine zaj.i hrw2 fun _=>?_|refine And.intro ?_ ?_|exact True.intro|refine rq fun _=>?_|refine rf fun _=>?_|simp only[go_sem,hset,hdr,hspl,hs1,hs2,zax,zab,zam,zad,zaa,Tryz.f12])
      have hspl2:zaf (List.map enc (st.take k)++FD.agg [.i .i64 x.kind,.i .i64 x.form,.i .i64 x.other,.s x.name.l,.sl [FD.agg [.i .i64 p.kind,.i .i64 p.form,.i .i64 p.other,.s p.name.l,.sl (p.subs.map enc)]]]::List.map enc tl)=FA++(D.fz (.i .i64 x.kind)::D.fz (.i .i64 x.form)::D.fz (.i .i64 x.other)::D.fz (.s x.name.l)::D.fz (.sl [FD.agg [.i .i64 p.kind,.i .i64 p.form,.i .i64 p.other,.s p.name.l,.sl (p.subs.map enc)]])::FT):=by
       rw[←hFA,←hFT,zgb];rfl
      have hwp:Prf.mk x.kind x.form x.other x.name [p]=zhM (st.drop k) rr.p:=by
       rw[List.drop_eq_getElem_cons hk5,hx,hp];rfl
      all_goals refine⟨⟨k,.mk x.kind x.form x.other x.name [p]::tl,.mk x.kind x.form x.other x.name [p],m4,by omega,by omega,⟨by simp only[List.length_cons];omega,hwp⟩⟩,by simp only;omega,?_⟩
      all_goals refine zbl [] [] [] ?_ ?_ ?_ ?_ ?_<;>simp only[go_sem,List.map_append,zaU,hspl2]
      all_goals repeat'(first|refine And.intro ?_ ?_|omega|rfl|simp only[go_sem,←hFA,←hFT])
      all_goals trace_state)
end Go.Proofs.YtdlioodgfopmfaaGreatDoor
namespace Go.Proofs.YtdlioodgfopmfaaGreatDoor
open Go Go.Abs Go.Proofs
section
variable {P:Program} {G:Nat→List FD} {T:Tbl}
def zDL {α β γ ρ σ τ:Type}[Enc α][Enc β][Enc γ][Enc ρ][Enc σ][Enc τ](f:α→β→γ→ρ×σ×τ)(pre:α→β→γ→Prop):List FD→Option (D×Prop)
 |[x,y,z]=>some (.tup [.fz (enc (f (dec x) (dec y) (dec z)).1),.fz (enc (f (dec x) (dec y) (dec z)).2.1),.fz (enc (f (dec x) (dec y) (dec z)).2.2)],x=enc (dec (α:=α) x)∧y=enc (dec (α:=β) y)∧z=enc (dec (α:=γ) z)∧pre (dec x) (dec y) (dec z))
 |_=>none
@[go_sem] theorem zGX {α β γ ρ σ τ:Type}[Enc α][Enc β][Enc γ][Enc ρ][Enc σ][Enc τ]{f:α→β→γ→ρ×σ×τ}{pre:α→β→γ→Prop}{x y z:FD}:zDL f pre [x,y,z]=some (.tup [.fz (enc (f (dec x) (dec y) (dec z)).1),.fz (enc (f (dec x) (dec y) (dec z)).2.1),.fz (enc (f (dec x) (dec y) (dec z)).2.2)],x=enc (dec (α:=α) x)∧y=enc (dec (α:=β) y)∧z=enc (dec (α:=γ) z)∧pre (dec x) (dec y) (dec z)):=rfl
theorem zze {α β γ ρ σ τ:Type}[Enc α][Enc β][Enc γ][Enc ρ][Enc σ][Enc τ]{f:FuncId}{g:α→β→γ→ρ×σ×τ}{pre:α→β→γ→Prop}(hc:zaq P f)(hT:zap P G T)
  (h:∀a b c,pre a b c→(enc a).Wf→(enc b).Wf→(enc c).Wf→zaA P G f [.fz (enc a),.fz (enc b),.fz (enc c)] (hpL []) 0 (fun d _ _=>D.val d=some (.tup [.fz (enc (g a b c).1),.fz (enc (g a b c).2.1),.fz (enc (g a b c).2.2)]))):zap P G (T.add f (zDL g pre)):=by
 refine zcl hT fun xs r c hx hcc=>?_
 unfold zDL at hx
 split at hx
 ·rename_i x y z
  simp only[Option.some.injEq,Prod.mk.injEq]at hx
  obtain⟨rfl,rfl⟩:=hx
  obtain⟨e,e2,e3,hp⟩:=hcc
  refine zdh hc fun hw=>?_
  rw[zeK]
  have:=h (dec x) (dec y) (dec z) hp (by rw[←e];exact hw x (by simp)) (by rw[←e2];exact hw y (by simp)) (by rw[←e3];exact hw z (by simp))
  rw[←e,←e2,←e3]at this
  exact this
 ·cases hx
end
theorem zxA (uses:Int):∀n:Nat,zFO uses (zeQ uses n) n
 |0=>fun b a h hn=>by have:=h.a1;omega
 |n+1=>by
  have h:=zy8 (zxA uses n) fun b a ha=>zei n b a ha
  have e:zeQ uses (n+1)=zha (zeQ uses n) uses:=by funext b a;rw[zeQ]
  rw[e]
  exact h
def zc4:Brn:=⟨[],[],[],0⟩
def zj1 (ax:List Abs.zac)(g:Abs.zac)(uses:Int):Res:=zeQ uses 301 (zbS zc4 (zbg ax g)) 0
def zcM (ax:List Abs.zac)(g:Abs.zac)(uses:Int):Prf×Bool×zeR:=
 if(zbL ax g).2.code≠0 then(zbK,false,(zbL ax g).2)
 else if uses<0∨5<uses then(zbK,false,⟨3, -3⟩)
 else if(zj1 ax g uses).lim=true then(zbK,false,⟨17, -3⟩)
 else if(zj1 ax g uses).ok=false then(zbK,false,⟨0,0⟩)
 else((zj1 ax g uses).p,true,⟨0,0⟩)
def zxJ:Tv:=(.q 0 (.br [(1,(.br [(2,(.q 3 (.br [(4,.leaf)])))])),(2,(.q 1 (.q 3 (.br [(4,.leaf)]))))]))
def Z4:Tbl:=Z3.add 4 (zDL zcM fun _ _ _=>True)
attribute [go_sem] Z4
set_option maxHeartbeats 4000000 in
theorem hZ4:zap Tryz.prog GA Z4:=by
 refine zze ok4 hZ3 fun ax g uses _ _ _ _=>?_
 obtain⟨V,hV⟩:∃V,zcM ax g uses=V:=⟨_,rfl⟩
 rw[hV]
 unfold zcM at hV
 obtain⟨Q,hQ⟩:∃Q:D→zaw→Nat→Prop,Q=(fun d _ _=>D.val d=some (.tup [.fz (enc V.1),.fz (enc V.2.1),.fz (enc V.2.2)])):=⟨_,rfl⟩
 rw[←hQ]
 have kq:=Kp.mk hQ
 clear hQ
 refine zah (N:=55) hm hZ3 4000 (lst [1000003]) ok4 Tryz.func4 rfl rfl (by simp) (by kernel_rfl) ?_
 by_cases h0:(zbL ax g).2.code=0
 rotate_left
 ·rw[if_pos h0]at hV
  obtain⟨bl,bf,hb⟩:∃l f,zbL ax g=(l,f):=⟨_,_,rfl⟩
  rw[hb]at h0 hV
  simp only at h0 hV
  have h0':(bf.code=0)=False:=eq_false h0
  repeat'(first|refine zae (id:=3) hm hZ3 4000 (lst [1000003]) zxJ (by kernel_rfl) (by kernel_rfl) ?_|refine And.intro ?_ ?_|exact True.intro|refine rq fun _=>?_|refine rf fun _=>?_|simp only[go_sem,zxJ,hb,h0',zab,Tryz.f4])
  all_goals(
   rw[kq.out,←hV]
   simp only[go_sem,zaU,zbK])
 rw[if_neg (by simp[h0])]at hV
 obtain⟨hb,hlen,hva,hvg⟩:=zks h0
 by_cases hu:uses<0∨5<uses
 ·rw[if_pos hu]at hV
  by_cases hu1:uses<0
  ·have hu1':(uses<0)=True:=eq_true hu1
   repeat'(first|refine And.intro ?_ ?_|exact True.intro|refine rq fun _=>?_|refine rf fun _=>?_|simp only[go_sem,hb,hu1',zab,Tryz.f4])
   all_goals(
    rw[kq.out,←hV]
    simp only[go_sem,zaU,zbK])
  ·have hu1':(uses<0)=False:=eq_false hu1
   have hu2':(5<uses)=True:=eq_true (by omega)
   repeat'(first|refine And.intro ?_ ?_|exact True.intro|refine rq fun _=>?_|refine rf fun _=>?_|simp only[go_sem,hb,hu1',hu2',zab,Tryz.f4])
   all_goals(
    rw[kq.out,←hV]
    simp only[go_sem,zaU,zbK])
 rw[if_neg hu]at hV
 have hu1':(uses<0)=False:=eq_false (by omega)
 have hu2':(5<uses)=False:=eq_false (by omega)
 have hbl:(zbg ax g).length=ax.length+1:=by unfold zbg zhF;simp
 obtain⟨B,hB⟩:∃B,zbg ax g=B:=⟨_,rfl⟩
 have hbb:∀f∈B,brF f:=by rw[←hB];exact zqb hva hvg
 obtain⟨B',hB'⟩:∃B',zbS zc4 B=B':=⟨_,rfl⟩
 have hr0:zj1 ax g uses=zeQ uses 301 B' 0:=by unfold zj1;rw[hB,hB']
 rw[hB]at hb hbl
 have hok:zb9 uses B' 0:=by
  rw[←hB']
  refine⟨fun f hf=>hbb f (by simpa[zbS,zc4]using hf),?_,?_,?_,fun s hs=>?_,?_,?_,by omega,by omega,by omega⟩
  ·show((zc4.list++B).length:Int)≤_
   unfold zc4;simp only[List.nil_append];omega
  ·show(zc4.used++List.replicate B.length false).length=(zc4.list++B).length
   unfold zc4;simp
  ·show(zc4.seen++List.replicate B.length []).length=(zc4.list++B).length
   unfold zc4;simp
  ·have h2:s∈zc4.seen++List.replicate B.length []:=hs
   unfold zc4 at h2
   simp only[List.nil_append]at h2
   rw[(List.mem_replicate.1 h2).2];simp
  ·show(0:Int)≤zc4.rounds;exact Int.le_refl _
  ·show zc4.rounds≤uses;unfold zc4;simp only;omega
 have hrun:=zxA uses 301 B' 0 hok (by omega)
 obtain⟨r,hr⟩:∃r,zeQ uses 301 B' 0=r:=⟨_,rfl⟩
 rw[hr]at hrun
 rw[hr0,hr]at hV
 cases hl:r.lim with
 |true=>
  rw[if_pos hl]at hV
  repeat'(first|(refine zaI.i (zAz (b:=zc4) (fs:=B) ⟨by unfold zc4;simp,by unfold zc4;simp,by unfold zc4;simp,by omega⟩ (fun s hs=>by unfold zc4 at hs;simp at hs) rfl ?_);rw[hB'])|refine zaI.i (zcv (T:=7) (xs:=[enc B']) (cs:=[.i .i64 uses,.i .i64 0]) rfl hrun (by simp only[go_sem]) ?_)|refine And.intro ?_ ?_|exact True.intro|refine rq fun _=>?_|refine rf fun _=>?_|simp only[go_sem,hb,hu1',hu2',hl,zab,zax,Tryz.f4])
  all_goals(
   rw[kq.out,←hV]
   simp only[go_sem,zaU,zbK])
 |false=>
  rw[if_neg (by simp[hl])]at hV
  cases hk:r.ok with
  |false=>
   rw[if_pos hk]at hV
   repeat'(first|(refine zaI.i (zAz (b:=zc4) (fs:=B) ⟨by unfold zc4;simp,by unfold zc4;simp,by unfold zc4;simp,by omega⟩ (fun s hs=>by unfold zc4 at hs;simp at hs) rfl ?_);rw[hB'])|refine zaI.i (zcv (T:=7) (xs:=[enc B']) (cs:=[.i .i64 uses,.i .i64 0]) rfl hrun (by simp only[go_sem]) ?_)|refine And.intro ?_ ?_|exact True.intro|refine rq fun _=>?_|refine rf fun _=>?_|simp only[go_sem,hb,hu1',hu2',hl,hk,zab,zax,Tryz.f4])
   all_goals(
    rw[kq.out,←hV]
    simp only[go_sem,zaU,zbK])
  |true=>
   rw[if_neg (by simp[hk])]at hV
   repeat'(first|(refine zaI.i (zAz (b:=zc4) (fs:=B) ⟨by unfold zc4;simp,by unfold zc4;simp,by unfold zc4;simp,by omega⟩ (fun s hs=>by unfold zc4 at hs;simp at hs) rfl ?_);rw[hB'])|refine zaI.i (zcv (T:=7) (xs:=[enc B']) (cs:=[.i .i64 uses,.i .i64 0]) rfl hrun (by simp only[go_sem]) ?_)|refine And.intro ?_ ?_|exact True.intro|refine rq fun _=>?_|refine rf fun _=>?_|simp only[go_sem,hb,hu1',hu2',hl,hk,zab,zax,Tryz.f4])
   all_goals(
    rw[kq.out,←hV]
    simp only[go_sem,zaU])
def zFW (k:Int)(f g:Abs.zac):Abs.zac:= .mk k ⟨[]⟩ [] [f,g]
def Z5:Tbl:=Z4.add 15 (sp3 zFW fun _ _ _=>True)
attribute [go_sem] Z5
theorem hZ5:zap Tryz.prog GA Z5:=by
 refine zhx zHb hZ4 fun k f g _ _ _ _=>?_
 simp only[zFW]
 refine zah (N:=12) hm hZ4 15000 (lst []) zHb Tryz.func15 rfl rfl (by simp) (by kernel_rfl) ?_
 repeat'(first|refine And.intro ?_ ?_|exact True.intro|refine rq fun _=>?_|refine rf fun _=>?_|simp only[go_sem,zab,Tryz.f15])
def zsa (k:Int)(x:Str)(f:Abs.zac):Abs.zac:= .mk k x [] [f]
def Z6:Tbl:=Z5.add 14 (sp3 zsa fun _ _ _=>True)
attribute [go_sem] Z6
theorem hZ6:zap Tryz.prog GA Z6:=by
 refine zhx zHa hZ5 fun k x f _ _ _ _=>?_
 simp only[zsa]
 refine zah (N:=12) hm hZ5 14000 (lst []) zHa Tryz.func14 rfl rfl (by simp) (by kernel_rfl) ?_
 repeat'(first|refine And.intro ?_ ?_|exact True.intro|refine rq fun _=>?_|refine rf fun _=>?_|simp only[go_sem,zab,Tryz.f14])
def Z7:Tbl:=Z6.add 5 (sp0 zdz)
attribute [go_sem] Z7
theorem hZ7:zap Tryz.prog GA Z7:=by
 refine zCc hZ6 ?_
 have e1:zq2 zok [exS]=prF zok exS:=rfl
 have e2:zq2 zuU [exS]=prF zuU exS:=rfl
 have e3:zq2 zok [zhJ]=prF zok zhJ:=rfl
 have e4:zFW 7 (prF zok exS) (prF zuU exS)= .mk 7 ⟨[]⟩ [] [prF zok exS,prF zuU exS]:=rfl
 have e5:zsa 8 exS (.mk 7 ⟨[]⟩ [] [prF zok exS,prF zuU exS])=zx2 exS:=rfl
 have dM:Str.mk [109,97,110]=zok:=rfl
 have dO:Str.mk [109,111,114,116,97,108]=zuU:=rfl
 have dK:Str.mk [107,105,109]=zhJ:=rfl
 have dX:Str.mk [120]=exS:=rfl
 refine zah (N:=10) hm hZ6 5000 (lst []) ok5 Tryz.func5 rfl rfl (by simp) (by kernel_rfl) ?_
 repeat'(first|refine And.intro ?_ ?_|exact True.intro|refine rq fun _=>?_|refine rf fun _=>?_|simp only[go_sem,dM,dO,dK,dX,e1,e2,e3,e4,e5,zad,zab,Tryz.f5])
 all_goals(unfold zdz;simp only[go_sem])
 all_goals trace_state
end Go.Proofs.YtdlioodgfopmfaaGreatDoor
namespace Go.Proofs.YtdlioodgfopmfaaGreatDoor
open Go Go.Abs Go.Proofs
theorem zqU:zbL zdz zgo=(zhL,⟨0,0⟩):=by
 have h1:(zaE false (zx2 exS)).code=0:=by kernel_rfl
 have h2:(zaE false (prF zok zhJ)).code=0:=by kernel_rfl
 have h3:(zaE false zgo).code=0:=by kernel_rfl
 unfold zbL
 rw[if_neg (by unfold zdz;simp),zfY zdz 0 (by unfold zdz;intro f hf;simp only[List.mem_cons,List.not_mem_nil,or_false]at hf;rcases hf with rfl|rfl<;>assumption),if_neg (by decide),if_neg (by simp[h3])]
 unfold zhF zdz
 rw[List.map_cons,List.map_cons,List.map_nil,zpo,zmS]
 have e:zmU zgo=ngg zgo:=rfl
 rw[e,zpp]
 rfl
theorem zoo:zbg zdz zgo=zhL:=by
 unfold zbg zhF zdz
 rw[List.map_cons,List.map_cons,List.map_nil,zpo,zmS]
 have e:zmU zgo=ngg zgo:=rfl
 rw[e,zpp]
 rfl
theorem ztn {uses:Int}:zj1 zdz zgo uses=zeQ uses 301 zed 0:=by
 unfold zj1;rw[zoo];rfl
theorem ziV {ax:List Abs.zac}{g:Abs.zac}{uses:Int}(h:(zbL ax g).2.code=0)(h2:¬(uses<0∨5<uses)):zcM ax g uses=if(zj1 ax g uses).lim=true then(zbK,false,⟨17, -3⟩)else if(zj1 ax g uses).ok=false then(zbK,false,⟨0,0⟩)else((zj1 ax g uses).p,true,⟨0,0⟩):=by
 unfold zcM
 rw[if_neg (by simp[h]),if_neg h2]
theorem zyX:zcM zdz zgo 1=((zeQ 1 301 zed 0).p,true,⟨0,0⟩):=by
 rw[ziV (by rw[zqU]) (by decide),ztn,if_neg (by rw[ztm.2.1];simp),if_neg (by rw[ztm.1];simp)]
theorem zwl {ax:List Abs.zac}{g:Abs.zac}{uses:Int}{p:Prf}{e:zeR}(h:zcM ax g uses=(p,true,e)):(zbL ax g).2.code=0∧¬(uses<0∨5<uses)∧(zj1 ax g uses).ok=true∧(zj1 ax g uses).lim=false∧p=(zj1 ax g uses).p∧e=⟨0,0⟩:=by
 unfold zcM at h
 by_cases h0:(zbL ax g).2.code=0
 rotate_left
 ·rw[if_pos h0]at h;simp at h
 rw[if_neg (by simp[h0])]at h
 by_cases hu:uses<0∨5<uses
 ·rw[if_pos hu]at h;simp at h
 rw[if_neg hu]at h
 cases hl:(zj1 ax g uses).lim with
 |true=>rw[if_pos hl]at h;simp at h
 |false=>
  rw[if_neg (by simp[hl])]at h
  cases hk:(zj1 ax g uses).ok with
  |false=>rw[if_pos hk]at h;simp at h
  |true=>
   rw[if_neg (by simp[hk])]at h
   simp only[Prod.mk.injEq,true_and]at h
   exact⟨h0,hu,rfl,rfl,h.1.symm,h.2.symm⟩
end Go.Proofs.YtdlioodgfopmfaaGreatDoor
namespace Go.Proofs.YtdlioodgfopmfaaGreatDoor
open Go Go.Abs Go.Proofs
theorem zsT (uses:Int):∀n:Nat,zyx uses (zeQ uses n) n
 |0=>fun l used made r a h _ _ _ hn=>by have:=h.a1;omega
 |n+1=>by
  have h:=zvT (zsT uses n) fun b a ha=>zei n b a ha
  have e:zeQ uses (n+1)=zha (zeQ uses n) uses:=by funext b a;rw[zeQ]
  rw[e]
  exact h
theorem zAV {l2:List Abs.zac}{u2:List Bool}{made:List zhO}{r uses a2:Int}{res:Res}{H:zaw}{n len:Nat}{sid oid:Abs.Id}{v:Bool}{cells:List D}{R:D→zaw→Nat→Prop}
  (hrun:zaA Tryz.prog GA 17 [.fz (enc l2),.fz (enc u2),.fz (enc made),.fz (.i .i64 r),.fz (.i .i64 uses),.ptr (7,0) 0] (hpL [((7,0),some ⟨[.fz (.i .i64 a2)],true,false⟩)]) 1 (fun d H' _=>D.val d=some (.fz (.i .i64 (zcE res)))∧H' (7,0)=some ⟨[FD.i .i64 res.added].map .fz,true,false⟩))
  (hn:sid≠oid)(ho:H oid=some ⟨cells,false,v⟩)(hc:cells=zaf (u2.map enc))(hv:v=true→u2=[])(hl:len=u2.length)(hs:H sid=some ⟨[.fz (.i .i64 a2)],true,false⟩)
  (hR:R (.fz (.i .i64 (zcE res))) (zaK (zaK H oid none) sid (some ⟨[.fz (.i .i64 res.added)],true,false⟩)) n):
  zaA Tryz.prog GA 17 [.fz (.sl (l2.map enc)),.arr oid 1 0 len,.full (made.map enc),.fz (.i .i64 r),.fz (.i .i64 uses),.ptr sid 0] H n R:=by
 subst hl hc
 rw[zaQ]at ho
 refine zeS oid (u2.map enc) ho (fun h=>by rw[hv h];rfl) (by rw[show(u2.map fun a=>D.fz (enc a))=(u2.map enc).map .fz by rw[List.map_map];rfl];exact zi8 _) (fun x hx=>by obtain⟨y,_,rfl⟩:=List.mem_map.1 hx;rfl) (args':=[.fz (.sl (l2.map enc)),.fz (.sl (u2.map enc)),.full (made.map enc),.fz (.i .i64 r),.fz (.i .i64 uses),.ptr sid 0]) ?_ ?_
 ·simp only[zpg,fzD,List.length_map,and_self,if_true]
 ·refine zer (T:=7) (ds:=[.fz (.sl (l2.map enc)),.fz (.sl (u2.map enc)),.full (made.map enc),.fz (.i .i64 r),.fz (.i .i64 uses)]) (xs:=[.sl (l2.map enc),.sl (u2.map enc),.sl (made.map enc),.i .i64 r,.i .i64 uses]) (cs:=[.i .i64 a2]) (cs':=[.i .i64 res.added]) rfl hrun ?_ hR
  unfold zaK
  rw[if_neg hn]
  exact hs
theorem zcm {f:Abs.zac}(h:(zaE false f).code=0):BF0 f:=⟨zkt h,zjB h,zio h⟩
theorem zik {ax:List Abs.zac}{g:Abs.zac}(h1:∀f∈ax,(zaE false f).code=0)(h2:(zaE false g).code=0):∀f∈zbg ax g,BF f:=fun f hf=>by
 unfold zbg zhF at hf
 rcases List.mem_append.1 hf with hf|hf
 ·obtain⟨a,ha,rfl⟩:=List.mem_map.1 hf
  exact(zcm (h1 a ha)).cn
 ·rw[List.mem_singleton.1 hf]
  exact(zcm h2).ng (by have:=zdr h2;omega)
theorem zxB {ax:List Abs.zac}{g:Abs.zac}{uses:Int}(hva:∀f∈ax,(zaE false f).code=0)(hvg:(zaE false g).code=0)(hlen:ax.length≤40)(hu:¬(uses<0∨5<uses)):zb9 uses (zbS zc4 (zbg ax g)) 0∧zgM (zbS zc4 (zbg ax g)).list:=by
 have hbl:(zbg ax g).length=ax.length+1:=by unfold zbg zhF;simp
 have hbb:=zik hva hvg
 obtain⟨B,hB⟩:∃B,zbg ax g=B:=⟨_,rfl⟩
 rw[hB]at hbl hbb ⊢
 have hl:(zbS zc4 B).list=B:=by unfold zbS zc4;simp
 refine⟨⟨fun f hf=>?_,?_,?_,?_,fun s hs=>?_,?_,?_,by omega,by omega,by omega⟩,fun f hf=>?_⟩
 ·rw[hl]at hf;exact(hbb f hf).o.b
 ·rw[hl];omega
 ·rw[hl];show(zc4.used++List.replicate B.length false).length=_;unfold zc4;simp
 ·rw[hl];show(zc4.seen++List.replicate B.length []).length=_;unfold zc4;simp
 ·have h2:s∈zc4.seen++List.replicate B.length []:=hs
  unfold zc4 at h2
  simp only[List.nil_append]at h2
  rw[(List.mem_replicate.1 h2).2];simp
 ·show(0:Int)≤zc4.rounds;exact Int.le_refl _
 ·show zc4.rounds≤uses;unfold zc4;simp only;omega
 ·rw[hl]at hf;exact hbb f hf
theorem zlN (B:List Abs.zac):brD B (List.replicate B.length false) [] 0=zbS zc4 B:=by
 unfold brD zbS zc4
 simp only[List.nil_append,zrk]
def ztD (ax:List Abs.zac)(g:Abs.zac)(uses:Int):Bool×zeR:=if zcE (zj1 ax g uses)=2 then(false,⟨17, -3⟩)else(decide (zcE (zj1 ax g uses)=1),⟨0,0⟩)
def W2:Tbl:=W1.add 8 (zDK ztD fun ax g uses=>(∀f∈ax,(zaE false f).code=0)∧(zaE false g).code=0∧ax.length≤40∧¬(uses<0∨5<uses))
attribute [go_sem] W2
set_option maxHeartbeats 4000000 in
theorem hW2:zap Tryz.prog GA W2:=by
 refine zzd ok8 hW1 fun ax g uses hp _ _ _=>?_
 obtain⟨hva,hvg,hlen,hu⟩:=hp
 obtain⟨V,hV⟩:∃V,ztD ax g uses=V:=⟨_,rfl⟩
 rw[hV]
 unfold ztD at hV
 obtain⟨Q,hQ⟩:∃Q:D→zaw→Nat→Prop,Q=(fun d _ _=>D.val d=some (.tup [.fz (enc V.1),.fz (enc V.2)])):=⟨_,rfl⟩
 rw[←hQ]
 have kq:=Kp.mk hQ
 clear hQ
 have hfp:(∀f∈ax,clB f)∧clB g∧ax.length≤1000:=⟨fun f hf=>⟨(zcm (hva f hf)).b,(zcm (hva f hf)).clean⟩,⟨(zcm hvg).b,(zcm hvg).clean⟩,by omega⟩
 obtain⟨B,hB⟩:∃B,zmn ax g=B:=⟨_,rfl⟩
 have hB2:zbg ax g=B:=hB
 obtain⟨h1,h2⟩:=zxB hva hvg hlen hu
 rw[hB2,←zlN]at h1 h2
 have hBl:B.length≤1000:=by
  rw[←hB];unfold zmn zhF;simp;omega
 have hrun:=zsT uses 301 B (List.replicate B.length false) [] 0 0 h1 h2 (fun d hd=>by cases hd) (by simp) (by omega)
 rw[zlN]at hrun
 obtain⟨rs,hrs⟩:∃rs,zj1 ax g uses=rs:=⟨_,rfl⟩
 have hrs2:zeQ uses 301 (zbS zc4 B) 0=rs:=by rw[←hrs,←hB2];rfl
 rw[hrs2]at hrun
 rw[hrs]at hV
 clear h1 h2 hva hvg
 have hcl:(List.range B.length).map (fun j=>[D.fz (.b false)].getD (j % 1) .junk)=zaf ((List.replicate B.length false).map enc):=by
  rw[zaQ]
  apply List.ext_getElem (by simp)
  intro j h1 h2
  simp only[List.getElem_map,List.getElem_replicate,Nat.mod_one,List.getD_cons_zero]
  rfl
 by_cases hc:zcE rs=2
 ·rw[if_pos hc]at hV
  have hc':(zcE rs=2)=True:=eq_true hc
  refine zah (N:=26) hm hW1 8000 (lst []) ok8 Tryz.func8 rfl rfl (by simp) (by kernel_rfl) ?_
  repeat'(first|refine zaI.i (zAV (made:=[]) (u2:=List.replicate B.length false) (a2:=0) hrun (by simp) (by simp only[go_sem];rfl) hcl (fun h=>by cases h) (by simp) (by simp only[go_sem]) ?_)|refine zaj.i hfp fun _=>?_|refine rf fun _=>?_|refine zaj.i (by simp only[List.length_map,List.length_take,List.length_append,List.length_cons,List.length_nil];omega) fun _=>?_|refine And.intro ?_ ?_|exact True.intro|refine rq fun _=>?_|simp only[go_sem,hB,hc',zab,zad,zaa,Tryz.f8])
  all_goals(
   rw[kq.out,←hV]
   simp only[go_sem])
 ·rw[if_neg hc]at hV
  have hc':(zcE rs=2)=False:=eq_false hc
  refine zah (N:=26) hm hW1 8000 (lst []) ok8 Tryz.func8 rfl rfl (by simp) (by kernel_rfl) ?_
  repeat'(first|refine zaI.i (zAV (made:=[]) (u2:=List.replicate B.length false) (a2:=0) hrun (by simp) (by simp only[go_sem];rfl) hcl (fun h=>by cases h) (by simp) (by simp only[go_sem]) ?_)|refine zaj.i hfp fun _=>?_|refine rf fun _=>?_|refine zaj.i (by simp only[List.length_map,List.length_take,List.length_append,List.length_cons,List.length_nil];omega) fun _=>?_|refine And.intro ?_ ?_|exact True.intro|refine rq fun _=>?_|simp only[go_sem,hB,hc',zab,zad,zaa,Tryz.f8])
  all_goals(
   rw[kq.out,←hV]
   simp only[go_sem])
end Go.Proofs.YtdlioodgfopmfaaGreatDoor
namespace Go.Proofs.YtdlioodgfopmfaaGreatDoor
open Go Go.Abs Go.Proofs
theorem zx7 {n:Nat}(hT:zap Tryz.prog GA (zcg n)){l:List Abs.zac}{p:Prf}(hpre:clP l p)(hfi:inL l p.form=false):zaA Tryz.prog GA 9 [.fz (enc l),.fz (enc p)] (hpL []) 0 (fun d _ _=>D.val d=some (.fz (enc (zbr p l)))):=by
 have hfo:=zkU hfi
 have hlen:l.length≤1000000:=by have:=hpre.2;omega
 have e:zbr p l=false:=by rw[zcC];unfold ziq;rw[if_pos hfi]
 have kT:=Kp.mk hT
 rw[e]
 by_cases h1:p.form<0
 ·have h1':(p.form<0)=True:=eq_true h1
  refine zah (N:=313) hm kT.out 9000 (lsw [181,184,206,209,247,253,294,307] [1000004,1000017,1000023,1000028,1000030,1000037,1000043,1000045,1000046,1000051]) ok9 Tryz.func9 rfl rfl (by simp) (by kernel_rfl) ?_
  repeat'(first|refine And.intro ?_ ?_|exact True.intro|refine rq fun _=>?_|simp only[go_sem,h1',Tryz.f9,zam,zab,zad,zaa,List.nil_append,zcg])
 ·have h1':(p.form<0)=False:=eq_false h1
  have h2':((l.length:Int)≤p.form)=True:=eq_true (by omega)
  refine zah (N:=313) hm kT.out 9000 (lsw [181,184,206,209,247,253,294,307] [1000004,1000017,1000023,1000028,1000030,1000037,1000043,1000045,1000046,1000051]) ok9 Tryz.func9 rfl rfl (by simp) (by kernel_rfl) ?_
  repeat'(first|refine And.intro ?_ ?_|exact True.intro|refine rq fun _=>?_|simp only[go_sem,h1',h2',Tryz.f9,zam,zab,zad,zaa,List.nil_append,zcg])
set_option maxHeartbeats 16000000 in
theorem zvl {n:Nat}(hT:zap Tryz.prog GA (zcg n)){l:List Abs.zac}{p:Prf}(hpn:p.size=n)(hpre:clP l p)(hfi:inL l p.form=true)(hk:p.kind<1∨6<p.kind):zaA Tryz.prog GA 9 [.fz (enc l),.fz (enc p)] (hpL []) 0 (fun d _ _=>D.val d=some (.fz (enc (zbr p l)))):=by
 obtain⟨hbr,hsz⟩:=hpre
 have hlen:l.length≤1000000:=by omega
 have kT:=Kp.mk hT
 have kb:=Kp.mk hbr
 clear hT hbr
 have ec:zbr p l=ziq p.kind p.form p.other p.name (p.subs.map zbr) l:=zcC p l
 unfold ziq at ec
 have hfo:=zey hfi
 rw[if_neg (by simp[hfi])]at ec
 obtain⟨fi,hfn⟩:∃n:Nat,p.form=(n:Int):=⟨p.form.toNat,by omega⟩
 have hfl:fi<l.length:=by omega
 obtain⟨f,hf⟩:∃f,l[fi]=f:=⟨_,rfl⟩
 have hfB:BF f:=kb.out f (by rw[←hf];exact List.getElem_mem hfl)
 have hfb:brF f:=hfB.o.b
 have haf:atL l p.form=f:=by unfold atL;rw[hfn,Int.toNat_natCast,List.getD_eq_getElem?_getD,List.getElem?_eq_getElem hfl,hf];rfl
 rw[haf]at ec
 have h00:((fi:Int)<0)=False:=eq_false (by omega)
 have hge1:((l.length:Int)≤fi)=False:=eq_false (by omega)
 have hge2:(l.length≤fi)=False:=eq_false (by omega)
 rw[if_neg (by omega),if_neg (by omega),if_neg (by omega),if_neg (by omega),if_neg (by omega),if_neg (by omega)]at ec
 rw[ec]
 by_cases h1:p.kind<1
 ·have h1':(p.kind<1)=True:=eq_true h1
  refine zah (N:=313) hm kT.out 9000 (lsw [181,184,206,209,247,253,294,307] [1000004,1000017,1000023,1000028,1000030,1000037,1000043,1000045,1000046,1000051]) ok9 Tryz.func9 rfl rfl (by simp) (by kernel_rfl) ?_
  repeat'(first|refine And.intro ?_ ?_|exact True.intro|refine rq fun _=>?_|simp only[go_sem,h1',hfn,h00,hge1,hge2,hfl,hf,zaz,Tryz.f9,zam,zab,zad,zaa,List.nil_append,zcg])
 ·have h1':(p.kind<1)=False:=eq_false h1
  have h2':(6<p.kind)=True:=eq_true (by omega)
  refine zah (N:=313) hm kT.out 9000 (lsw [181,184,206,209,247,253,294,307] [1000004,1000017,1000023,1000028,1000030,1000037,1000043,1000045,1000046,1000051]) ok9 Tryz.func9 rfl rfl (by simp) (by kernel_rfl) ?_
  repeat'(first|refine And.intro ?_ ?_|exact True.intro|refine rq fun _=>?_|simp only[go_sem,h1',h2',hfn,h00,hge1,hge2,hfl,hf,zaz,Tryz.f9,zam,zab,zad,zaa,List.nil_append,zcg])
end Go.Proofs.YtdlioodgfopmfaaGreatDoor
namespace Go.Proofs.YtdlioodgfopmfaaGreatDoor
open Go Go.Abs Go.Proofs
set_option maxHeartbeats 16000000 in
theorem zD7 {n:Nat}(hT:zap Tryz.prog GA (zcg n)){l:List Abs.zac}{p:Prf}(hpn:p.size=n)(hpre:clP l p)(hfi:inL l p.form=true)(kk:p.kind=1):zaA Tryz.prog GA 9 [.fz (enc l),.fz (enc p)] (hpL []) 0 (fun d _ _=>D.val d=some (.fz (enc (zbr p l)))):=by
 obtain⟨hbr,hsz⟩:=hpre
 have hlen:l.length≤1000000:=by omega
 have kT:=Kp.mk hT
 have kb:=Kp.mk hbr
 clear hT hbr
 have ec:zbr p l=ziq p.kind p.form p.other p.name (p.subs.map zbr) l:=zcC p l
 unfold ziq at ec
 have hfo:=zey hfi
 rw[if_neg (by simp[hfi])]at ec
 obtain⟨fi,hfn⟩:∃n:Nat,p.form=(n:Int):=⟨p.form.toNat,by omega⟩
 have hfl:fi<l.length:=by omega
 obtain⟨f,hf⟩:∃f,l[fi]=f:=⟨_,rfl⟩
 have hfB:BF f:=kb.out f (by rw[←hf];exact List.getElem_mem hfl)
 have hfb:brF f:=hfB.o.b
 have haf:atL l p.form=f:=by unfold atL;rw[hfn,Int.toNat_natCast,List.getD_eq_getElem?_getD,List.getElem?_eq_getElem hfl,hf];rfl
 rw[haf]at ec
 have h00:((fi:Int)<0)=False:=eq_false (by omega)
 have hge1:((l.length:Int)≤fi)=False:=eq_false (by omega)
 have hge2:(l.length≤fi)=False:=eq_false (by omega)
 rw[if_pos kk]at ec
 by_cases hn:p.subs.length=0
 rotate_left
 ·have e:zbr p l=false:=by rw[ec,List.length_map,decide_eq_false hn];rfl
  have hn':((p.subs.length:Int)=0)=False:=eq_false (by omega)
  rw[e]
  refine zah (N:=313) hm kT.out 9000 (lsw [181,184,206,209,247,253,294,307] [1000004,1000017,1000023,1000028,1000030,1000037,1000043,1000045,1000046,1000051]) ok9 Tryz.func9 rfl rfl (by simp) (by kernel_rfl) ?_
  repeat'(first|refine zae (id:=4) hm kT.out 9000 (lsw [181,184,206,209,247,253,294,307] [1000004,1000017,1000023,1000028,1000030,1000037,1000043,1000045,1000046,1000051]) zaz (by kernel_rfl) (by kernel_rfl) ?_|refine And.intro ?_ ?_|exact True.intro|refine rq fun _=>?_|simp only[go_sem,kk,hn',hfn,h00,hge1,hge2,hfl,hf,zaz,Tryz.f9,zam,zab,zad,zaa,List.nil_append,zcg])
 have hs0:p.subs=[]:=List.eq_nil_of_length_eq_zero hn
 cases hoi:inL l p.other with
 |false=>
  have hoo:=zkU hoi
  have e:zbr p l=false:=by rw[ec,hoi];simp
  rw[e]
  by_cases h1:p.other<0
  ·have h1':(p.other<0)=True:=eq_true h1
   refine zah (N:=313) hm kT.out 9000 (lsw [181,184,206,209,247,253,294,307] [1000004,1000017,1000023,1000028,1000030,1000037,1000043,1000045,1000046,1000051]) ok9 Tryz.func9 rfl rfl (by simp) (by kernel_rfl) ?_
   repeat'(first|refine zae (id:=4) hm kT.out 9000 (lsw [181,184,206,209,247,253,294,307] [1000004,1000017,1000023,1000028,1000030,1000037,1000043,1000045,1000046,1000051]) zaz (by kernel_rfl) (by kernel_rfl) ?_|refine And.intro ?_ ?_|exact True.intro|refine rq fun _=>?_|simp only[go_sem,kk,hs0,h1',hfn,h00,hge1,hge2,hfl,hf,zaz,Tryz.f9,zam,zab,zad,zaa,List.nil_append,zcg])
  ·have h1':(p.other<0)=False:=eq_false h1
   have h2':((l.length:Int)≤p.other)=True:=eq_true (by omega)
   refine zah (N:=313) hm kT.out 9000 (lsw [181,184,206,209,247,253,294,307] [1000004,1000017,1000023,1000028,1000030,1000037,1000043,1000045,1000046,1000051]) ok9 Tryz.func9 rfl rfl (by simp) (by kernel_rfl) ?_
   repeat'(first|refine zae (id:=4) hm kT.out 9000 (lsw [181,184,206,209,247,253,294,307] [1000004,1000017,1000023,1000028,1000030,1000037,1000043,1000045,1000046,1000051]) zaz (by kernel_rfl) (by kernel_rfl) ?_|refine And.intro ?_ ?_|exact True.intro|refine rq fun _=>?_|simp only[go_sem,kk,hs0,h1',h2',hfn,h00,hge1,hge2,hfl,hf,zaz,Tryz.f9,zam,zab,zad,zaa,List.nil_append,zcg])
 |true=>
  have hoo:=zey hoi
  obtain⟨oi,hon⟩:∃n:Nat,p.other=(n:Int):=⟨p.other.toNat,by omega⟩
  have hol:oi<l.length:=by omega
  obtain⟨g,hg⟩:∃g,l[oi]=g:=⟨_,rfl⟩
  have hgB:BF g:=kb.out g (by rw[←hg];exact List.getElem_mem hol)
  have hag:atL l p.other=g:=by unfold atL;rw[hon,Int.toNat_natCast,List.getD_eq_getElem?_getD,List.getElem?_eq_getElem hol,hg];rfl
  have o00:((oi:Int)<0)=False:=eq_false (by omega)
  have oge1:((l.length:Int)≤oi)=False:=eq_false (by omega)
  have oge2:(l.length≤oi)=False:=eq_false (by omega)
  rw[hag,hoi]at ec
  have hlp:(∀f∈l,brF f)∧l.length≤100000:=⟨fun f hf=>(kb.out f hf).o.b,by omega⟩
  have hcd:=znV l l.length (Nat.le_refl _)
  rw[List.take_length]at hcd
  have hclp:(clD l).1.length=(clD l).2.length∧(clD l).1.length≤1000000:=⟨hcd.1,by omega⟩
  have heq:=zpb l
  have ec:zbr p l=if p.other=p.form then zhG (zeM l) f else zhn l f g:=by rw[ec,hs0];rfl
  obtain⟨C,hC⟩:∃C,clD l=C:=⟨_,rfl⟩
  rw[hC]at hclp heq
  have ke:=Kp.mk heq
  clear heq hcd
  by_cases hof:oi=fi
  ·have hofT:((fi:Int)=oi)=True:=eq_true (by omega)
   have hofT2:(fi=oi)=True:=eq_true hof.symm
   have e:zbr p l=zhG (zeM l) f:=by rw[ec,if_pos (by omega)]
   by_cases h4:f.kind=4
   rotate_left
   ·have e:zbr p l=false:=by rw[e];unfold zhG;rw[decide_eq_false h4];rfl
    rw[e]
    refine zah (N:=313) hm kT.out 9000 (lsw [181,184,206,209,247,253,294,307] [1000004,1000017,1000023,1000028,1000030,1000037,1000043,1000045,1000046,1000051]) ok9 Tryz.func9 rfl rfl (by simp) (by kernel_rfl) ?_
    repeat'(first|refine zae (id:=4) hm kT.out 9000 (lsw [181,184,206,209,247,253,294,307] [1000004,1000017,1000023,1000028,1000030,1000037,1000043,1000045,1000046,1000051]) zaz (by kernel_rfl) (by kernel_rfl) ?_|refine zaj.i hlp fun _=>?_|refine zaj.i hclp fun _=>?_|refine And.intro ?_ ?_|exact True.intro|refine rq fun _=>?_|simp only[go_sem,kk,hs0,hofT,hofT2,h4,hC,hfn,h00,hge1,hge2,hfl,hf,zaz,hon,o00,oge1,oge2,hol,hg,Tryz.f9,zam,zab,zad,zaa,List.nil_append,zcg])
   obtain⟨h,hh,s0,hhb⟩:=zdd hfb (.inl h4)
   have e:zbr p l=(decide (h.kind=1)||decide (h.kind=3)&&decide (zaB (zeM l) (h.words.getD 0 ⟨[]⟩)=zaB (zeM l) (h.words.getD 1 ⟨[]⟩))):=by rw[e];unfold zhG;rw[decide_eq_true h4,s0];rfl
   by_cases j1:h.kind=1
   ·have e:zbr p l=true:=by rw[e,decide_eq_true j1];rfl
    rw[e]
    refine zah (N:=313) hm kT.out 9000 (lsw [181,184,206,209,247,253,294,307] [1000004,1000017,1000023,1000028,1000030,1000037,1000043,1000045,1000046,1000051]) ok9 Tryz.func9 rfl rfl (by simp) (by kernel_rfl) ?_
    repeat'(first|refine zae (id:=4) hm kT.out 9000 (lsw [181,184,206,209,247,253,294,307] [1000004,1000017,1000023,1000028,1000030,1000037,1000043,1000045,1000046,1000051]) zaz (by kernel_rfl) (by kernel_rfl) ?_|refine zaj.i hlp fun _=>?_|refine zaj.i hclp fun _=>?_|refine zae (id:=28) hm kT.out 9000 (lsw [181,184,206,209,247,253,294,307] [1000004,1000017,1000023,1000028,1000030,1000037,1000043,1000045,1000046,1000051]) zhd (by kernel_rfl) (by kernel_rfl) ?_|refine And.intro ?_ ?_|exact True.intro|refine rq fun _=>?_|simp only[go_sem,kk,hs0,hofT,hofT2,h4,hh,j1,hC,zhd,hfn,h00,hge1,hge2,hfl,hf,zaz,hon,o00,oge1,oge2,hol,hg,Tryz.f9,zam,zab,zad,zaa,List.nil_append,zcg])
   by_cases j3:h.kind=3
   rotate_left
   ·have e:zbr p l=false:=by rw[e,decide_eq_false j1,decide_eq_false j3];rfl
    rw[e]
    refine zah (N:=313) hm kT.out 9000 (lsw [181,184,206,209,247,253,294,307] [1000004,1000017,1000023,1000028,1000030,1000037,1000043,1000045,1000046,1000051]) ok9 Tryz.func9 rfl rfl (by simp) (by kernel_rfl) ?_
    repeat'(first|refine zae (id:=4) hm kT.out 9000 (lsw [181,184,206,209,247,253,294,307] [1000004,1000017,1000023,1000028,1000030,1000037,1000043,1000045,1000046,1000051]) zaz (by kernel_rfl) (by kernel_rfl) ?_|refine zaj.i hlp fun _=>?_|refine zaj.i hclp fun _=>?_|refine zae (id:=28) hm kT.out 9000 (lsw [181,184,206,209,247,253,294,307] [1000004,1000017,1000023,1000028,1000030,1000037,1000043,1000045,1000046,1000051]) zhd (by kernel_rfl) (by kernel_rfl) ?_|refine And.intro ?_ ?_|exact True.intro|refine rq fun _=>?_|simp only[go_sem,kk,hs0,hofT,hofT2,h4,hh,j1,j3,hC,zhd,hfn,h00,hge1,hge2,hfl,hf,zaz,hon,o00,oge1,oge2,hol,hg,Tryz.f9,zam,zab,zad,zaa,List.nil_append,zcg])
   obtain⟨a,b,hab⟩:∃a b,h.words=[a,b]:=by
    have h2:=(zbf.1 hhb.v).2.2.2.1 j3
    match h:h.words,h2 with
    |[a,b],_=>exact⟨a,b,rfl⟩
   have e:zbr p l=eqR C.1 C.2 a b:=by rw[e,decide_eq_false j1,decide_eq_true j3,hab,ke.out];rfl
   obtain⟨B,hB⟩:∃B,eqR C.1 C.2 a b=B:=⟨_,rfl⟩
   rw[e,hB]
   clear e ec
   refine zah (N:=313) hm kT.out 9000 (lsw [181,184,206,209,247,253,294,307] [1000004,1000017,1000023,1000028,1000030,1000037,1000043,1000045,1000046,1000051]) ok9 Tryz.func9 rfl rfl (by simp) (by kernel_rfl) ?_
   repeat'(first|refine zae (id:=4) hm kT.out 9000 (lsw [181,184,206,209,247,253,294,307] [1000004,1000017,1000023,1000028,1000030,1000037,1000043,1000045,1000046,1000051]) zaz (by kernel_rfl) (by kernel_rfl) ?_|refine zaj.i hlp fun _=>?_|refine zaj.i hclp fun _=>?_|refine zae (id:=28) hm kT.out 9000 (lsw [181,184,206,209,247,253,294,307] [1000004,1000017,1000023,1000028,1000030,1000037,1000043,1000045,1000046,1000051]) zhd (by kernel_rfl) (by kernel_rfl) ?_|refine And.intro ?_ ?_|exact True.intro|refine rq fun _=>?_|simp only[go_sem,kk,hs0,hofT,hofT2,h4,hh,j1,j3,hab,hC,hB,zhd,hfn,h00,hge1,hge2,hfl,hf,zaz,hon,o00,oge1,oge2,hol,hg,Tryz.f9,zam,zab,zad,zaa,List.nil_append,zcg])
  ·have hofF:((fi:Int)=oi)=False:=eq_false (by omega)
   have hofF2:(fi=oi)=False:=eq_false fun h=>hof h.symm
   have e:zbr p l=zhn l f g:=by rw[ec,if_neg (by omega)]
   by_cases h4:g.kind=4
   rotate_left
   ·have e:zbr p l=false:=by rw[e,zqe h4]
    rw[e]
    refine zah (N:=313) hm kT.out 9000 (lsw [181,184,206,209,247,253,294,307] [1000004,1000017,1000023,1000028,1000030,1000037,1000043,1000045,1000046,1000051]) ok9 Tryz.func9 rfl rfl (by simp) (by kernel_rfl) ?_
    repeat'(first|refine zae (id:=4) hm kT.out 9000 (lsw [181,184,206,209,247,253,294,307] [1000004,1000017,1000023,1000028,1000030,1000037,1000043,1000045,1000046,1000051]) zaz (by kernel_rfl) (by kernel_rfl) ?_|refine zaj.i hlp fun _=>?_|refine zaj.i hclp fun _=>?_|refine And.intro ?_ ?_|exact True.intro|refine rq fun _=>?_|simp only[go_sem,kk,hs0,hofF,hofF2,h4,hC,hfn,h00,hge1,hge2,hfl,hf,zaz,hon,o00,oge1,oge2,hol,hg,Tryz.f9,zam,zab,zad,zaa,List.nil_append,zcg])
   obtain⟨h,hh,s0,hhb⟩:=zdd hgB.o.b (.inl h4)
   have hh0:BF0 h:=hgB.o.sub (by rw[hh];simp)
   have hcn:h.fit=true∧h.size≤1000:=⟨hh0.b.ft,by have:=hh0.b.s;omega⟩
   have ewt:zje h []=cnn h:=zcX hh0.clean
   have e:zbr p l=(zow (cnn h) f||zci (zeM l) f h):=by rw[e,zso hfB hgB h4 hh]
   have hsm:txP (cnn h)∧txP f:=⟨hh0.cn.o.tx,hfB.o.tx⟩
   obtain⟨N,hN⟩:∃N,cnn h=N:=⟨_,rfl⟩
   rw[hN]at e ewt hsm
   cases hS:zow N f with
   |true=>
    have e:zbr p l=true:=by rw[e,hS];rfl
    rw[e]
    refine zah (N:=313) hm kT.out 9000 (lsw [181,184,206,209,247,253,294,307] [1000004,1000017,1000023,1000028,1000030,1000037,1000043,1000045,1000046,1000051]) ok9 Tryz.func9 rfl rfl (by simp) (by kernel_rfl) ?_
    repeat'(first|refine zae (id:=4) hm kT.out 9000 (lsw [181,184,206,209,247,253,294,307] [1000004,1000017,1000023,1000028,1000030,1000037,1000043,1000045,1000046,1000051]) zaz (by kernel_rfl) (by kernel_rfl) ?_|refine zaj.i hlp fun _=>?_|refine zaj.i hclp fun _=>?_|refine zaj.i hcn fun _=>?_|refine zaj.i hsm fun _=>?_|refine zae (id:=17) hm kT.out 9000 (lsw [181,184,206,209,247,253,294,307] [1000004,1000017,1000023,1000028,1000030,1000037,1000043,1000045,1000046,1000051]) zdb (by kernel_rfl) (by kernel_rfl) ?_|refine And.intro ?_ ?_|exact True.intro|refine rq fun _=>?_|simp only[go_sem,kk,hs0,hofF,hofF2,h4,hh,hC,ewt,hS,zdb,hfn,h00,hge1,hge2,hfl,hf,zaz,hon,o00,oge1,oge2,hol,hg,Tryz.f9,zam,zab,zad,zaa,List.nil_append,zcg])
   |false=>
    have e:zbr p l=zci (zeM l) f h:=by rw[e,hS];rfl
    rw[zvc]at e
    clear ec
    obtain⟨R,hR⟩:∃R:Nat→Bool,R=fun j=>eqR C.1 C.2 (f.words.getD j ⟨[]⟩) (h.words.getD j ⟨[]⟩):=⟨_,rfl⟩
    have hRj:∀j (h1:j<f.words.length) (h2:j<h.words.length),eqR C.1 C.2 f.words[j] h.words[j]=R j:=fun j h1 h2=>by
     rw[hR]
     simp only
     rw[List.getD_eq_getElem?_getD,List.getElem?_eq_getElem h1,List.getD_eq_getElem?_getD,List.getElem?_eq_getElem h2];rfl
    have hRt:∀j (h1:j<f.words.length) (h2:j<h.words.length),R j=decide (zaB (zeM l) f.words[j]=zaB (zeM l) h.words[j]):=fun j h1 h2=>by rw[←hRj j h1 h2,ke.out]
    obtain⟨okF,hok⟩:∃okF:Bool→Nat→Bool,okF=fun b i=>if i=0 then b else R (i-1):=⟨_,rfl⟩
    have hok0:∀b,okF b 0=b:=fun b=>by rw[hok];rfl
    have hoks:∀b i,okF b (i+1)=R i:=fun b i=>by rw[hok];rfl
    have kr:=Kp.mk hRj
    have krt:=Kp.mk hRt
    have kok:=Kp.mk hoks
    have hfw:f.words.length≤1000:=by
     have hf:=hfb.ft
     cases f with
     |mk a b c d=>
      rw[zac.fit]at hf
      simp only[Bool.and_eq_true,decide_eq_true_eq]at hf
      exact hf.1.1
    clear hR hRj hRt hok hoks
    by_cases h2k:f.kind=2
    rotate_left
    ·have e:zbr p l=false:=by rw[e,decide_eq_false h2k];rfl
     rw[e]
     refine zah (N:=313) hm kT.out 9000 (lsw [181,184,206,209,247,253,294,307] [1000004,1000017,1000023,1000028,1000030,1000037,1000043,1000045,1000046,1000051]) ok9 Tryz.func9 rfl rfl (by simp) (by kernel_rfl) ?_
     repeat'(first|(refine zaL (zaM (id:=(9003,0)) (t:=3) (b:=true) (ys:=[.i .i64 p.kind,.i .i64 p.form,.i .i64 p.other,.s p.name.l,.sl (p.subs.map enc)]) ?_ ?_) ?_;(focus (simp only[go_sem,kk,hs0,hfn,hon,h4,h2k];done));(focus (simp only[go_sem];done)))|(refine zaL (zaM (id:=(9005,1)) (t:=5) (b:=true) (ys:=[.i .i64 f.kind,.s f.name.l,.sl (f.words.map enc),.sl (f.subs.map enc)]) ?_ ?_) ?_;(focus (simp only[go_sem,kk,hs0,hfn,hon,h4,h2k];done));(focus (simp only[go_sem];done)))|refine zae (id:=4) hm kT.out 9000 (lsw [181,184,206,209,247,253,294,307] [1000004,1000017,1000023,1000028,1000030,1000037,1000043,1000045,1000046,1000051]) zaz (by kernel_rfl) (by kernel_rfl) ?_|refine zaj.i hlp fun _=>?_|refine zaj.i hclp fun _=>?_|refine zaj.i hcn fun _=>?_|refine zaj.i hsm fun _=>?_|refine zae (id:=17) hm kT.out 9000 (lsw [181,184,206,209,247,253,294,307] [1000004,1000017,1000023,1000028,1000030,1000037,1000043,1000045,1000046,1000051]) zdb (by kernel_rfl) (by kernel_rfl) ?_|refine And.intro ?_ ?_|exact True.intro|refine rq fun _=>?_|simp only[go_sem,h2k,kk,hs0,hofF,hofF2,h4,hh,hC,ewt,hS,zdb,hfn,h00,hge1,hge2,hfl,hf,zaz,hon,o00,oge1,oge2,hol,hg,Tryz.f9,zam,zab,zad,zaa,List.nil_append,zcg])
     refine zao hm kT.out 9000 (lsw [181,184,206,209,247,253,294,307] [1000004,1000017,1000023,1000028,1000030,1000037,1000043,1000045,1000046,1000051]) (ι:=zcO 0 fun i=>∀j,j+1<i→R j=true)
      ⟨fun q=>⟨frL [(3,.rp [.i .i64 p.kind,.i .i64 p.form,.i .i64 p.other,.s p.name.l,.sl (p.subs.map enc)]),(5,.rp [.i .i64 f.kind,.s f.name.l,.sl (f.words.map enc),.sl (f.subs.map enc)]),(6,.fz (.sl (C.1.map enc))),(7,.fz (.sl (C.2.map enc))),(8,.ptr (9008,2) 0),(9,.fz (.b (okF false q.i))),(10,.fz (.i .i64 q.i))],
       hpL [((9008,2),some ⟨[.fz (.i .i64 h.kind),.fz (.s h.name.l),.fz (.sl (h.words.map enc)),.fz (.sl (h.subs.map enc))],true,false⟩)],3⟩,fun q=>0-q.i⟩
      ⟨0,by omega,fun j h=>by omega⟩ (by kernel_rfl) ?_ ?_
     ·refine zai ?_ ?_ ?_<;>simp only[go_sem,hok0,kk,hs0,hfn,hon,h2k]
      all_goals first|done|rfl|omega
     rintro⟨i,hi,hP⟩
     try simp only at hi hP
     obtain rfl:i=0:=by omega
     repeat'(first|refine And.intro ?_ ?_|exact True.intro|refine rq fun _=>?_|simp only[go_sem,hok0,Tryz.f9,zam,zab,zad,zaa,List.nil_append,zcg])
    have eF:Abs.zac.mk 2 f.name f.words f.subs=f:=by rw[←h2k];exact zab
    by_cases h2h:h.kind=2
    rotate_left
    ·have e:zbr p l=false:=by rw[e,decide_eq_false h2h];simp
     rw[e]
     refine zah (N:=313) hm kT.out 9000 (lsw [181,184,206,209,247,253,294,307] [1000004,1000017,1000023,1000028,1000030,1000037,1000043,1000045,1000046,1000051]) ok9 Tryz.func9 rfl rfl (by simp) (by kernel_rfl) ?_
     repeat'(first|(refine zaL (zaM (id:=(9003,0)) (t:=3) (b:=true) (ys:=[.i .i64 p.kind,.i .i64 p.form,.i .i64 p.other,.s p.name.l,.sl (p.subs.map enc)]) ?_ ?_) ?_;(focus (simp only[go_sem,kk,hs0,hfn,hon,h4,h2k,eF,h2h];done));(focus (simp only[go_sem];done)))|(refine zaL (zaM (id:=(9005,1)) (t:=5) (b:=true) (ys:=[.i .i64 f.kind,.s f.name.l,.sl (f.words.map enc),.sl (f.subs.map enc)]) ?_ ?_) ?_;(focus (simp only[go_sem,kk,hs0,hfn,hon,h4,h2k,eF,h2h];done));(focus (simp only[go_sem];done)))|refine zae (id:=4) hm kT.out 9000 (lsw [181,184,206,209,247,253,294,307] [1000004,1000017,1000023,1000028,1000030,1000037,1000043,1000045,1000046,1000051]) zaz (by kernel_rfl) (by kernel_rfl) ?_|refine zaj.i hlp fun _=>?_|refine zaj.i hclp fun _=>?_|refine zaj.i hcn fun _=>?_|refine zaj.i hsm fun _=>?_|refine zae (id:=17) hm kT.out 9000 (lsw [181,184,206,209,247,253,294,307] [1000004,1000017,1000023,1000028,1000030,1000037,1000043,1000045,1000046,1000051]) zdb (by kernel_rfl) (by kernel_rfl) ?_|refine And.intro ?_ ?_|exact True.intro|refine rq fun _=>?_|simp only[go_sem,h2k,eF,h2h,kk,hs0,hofF,hofF2,h4,hh,hC,ewt,hS,zdb,hfn,h00,hge1,hge2,hfl,hf,zaz,hon,o00,oge1,oge2,hol,hg,Tryz.f9,zam,zab,zad,zaa,List.nil_append,zcg])
     refine zao hm kT.out 9000 (lsw [181,184,206,209,247,253,294,307] [1000004,1000017,1000023,1000028,1000030,1000037,1000043,1000045,1000046,1000051]) (ι:=zcO 0 fun i=>∀j,j+1<i→R j=true)
      ⟨fun q=>⟨frL [(3,.rp [.i .i64 p.kind,.i .i64 p.form,.i .i64 p.other,.s p.name.l,.sl (p.subs.map enc)]),(5,.rp [.i .i64 f.kind,.s f.name.l,.sl (f.words.map enc),.sl (f.subs.map enc)]),(6,.fz (.sl (C.1.map enc))),(7,.fz (.sl (C.2.map enc))),(8,.ptr (9008,2) 0),(9,.fz (.b (okF false q.i))),(10,.fz (.i .i64 q.i))],
       hpL [((9008,2),some ⟨[.fz (.i .i64 h.kind),.fz (.s h.name.l),.fz (.sl (h.words.map enc)),.fz (.sl (h.subs.map enc))],true,false⟩)],3⟩,fun q=>0-q.i⟩
      ⟨0,by omega,fun j h=>by omega⟩ (by kernel_rfl) ?_ ?_
     ·refine zai ?_ ?_ ?_<;>simp only[go_sem,hok0,kk,hs0,hfn,hon,h2k,eF,h2h]
      all_goals first|done|rfl|omega
     rintro⟨i,hi,hP⟩
     try simp only at hi hP
     obtain rfl:i=0:=by omega
     repeat'(first|refine And.intro ?_ ?_|exact True.intro|refine rq fun _=>?_|simp only[go_sem,hok0,Tryz.f9,zam,zab,zad,zaa,List.nil_append,zcg])
    have eH:Abs.zac.mk 2 h.name h.words h.subs=h:=by rw[←h2h];exact zab
    by_cases hnm:f.name=h.name
    rotate_left
    ·have e:zbr p l=false:=by rw[e,decide_eq_false hnm];simp
     have hnl:(f.name.l=h.name.l)=False:=eq_false fun e0=>hnm (show f.name=h.name from zfb e0)
     rw[e]
     refine zah (N:=313) hm kT.out 9000 (lsw [181,184,206,209,247,253,294,307] [1000004,1000017,1000023,1000028,1000030,1000037,1000043,1000045,1000046,1000051]) ok9 Tryz.func9 rfl rfl (by simp) (by kernel_rfl) ?_
     repeat'(first|(refine zaL (zaM (id:=(9003,0)) (t:=3) (b:=true) (ys:=[.i .i64 p.kind,.i .i64 p.form,.i .i64 p.other,.s p.name.l,.sl (p.subs.map enc)]) ?_ ?_) ?_;(focus (simp only[go_sem,kk,hs0,hfn,hon,h4,h2k,eF,h2h,eH,hnl];done));(focus (simp only[go_sem];done)))|(refine zaL (zaM (id:=(9005,1)) (t:=5) (b:=true) (ys:=[.i .i64 f.kind,.s f.name.l,.sl (f.words.map enc),.sl (f.subs.map enc)]) ?_ ?_) ?_;(focus (simp only[go_sem,kk,hs0,hfn,hon,h4,h2k,eF,h2h,eH,hnl];done));(focus (simp only[go_sem];done)))|refine zae (id:=4) hm kT.out 9000 (lsw [181,184,206,209,247,253,294,307] [1000004,1000017,1000023,1000028,1000030,1000037,1000043,1000045,1000046,1000051]) zaz (by kernel_rfl) (by kernel_rfl) ?_|refine zaj.i hlp fun _=>?_|refine zaj.i hclp fun _=>?_|refine zaj.i hcn fun _=>?_|refine zaj.i hsm fun _=>?_|refine zae (id:=17) hm kT.out 9000 (lsw [181,184,206,209,247,253,294,307] [1000004,1000017,1000023,1000028,1000030,1000037,1000043,1000045,1000046,1000051]) zdb (by kernel_rfl) (by kernel_rfl) ?_|refine And.intro ?_ ?_|exact True.intro|refine rq fun _=>?_|simp only[go_sem,h2k,eF,h2h,eH,hnl,kk,hs0,hofF,hofF2,h4,hh,hC,ewt,hS,zdb,hfn,h00,hge1,hge2,hfl,hf,zaz,hon,o00,oge1,oge2,hol,hg,Tryz.f9,zam,zab,zad,zaa,List.nil_append,zcg])
     refine zao hm kT.out 9000 (lsw [181,184,206,209,247,253,294,307] [1000004,1000017,1000023,1000028,1000030,1000037,1000043,1000045,1000046,1000051]) (ι:=zcO 0 fun i=>∀j,j+1<i→R j=true)
      ⟨fun q=>⟨frL [(3,.rp [.i .i64 p.kind,.i .i64 p.form,.i .i64 p.other,.s p.name.l,.sl (p.subs.map enc)]),(5,.rp [.i .i64 f.kind,.s f.name.l,.sl (f.words.map enc),.sl (f.subs.map enc)]),(6,.fz (.sl (C.1.map enc))),(7,.fz (.sl (C.2.map enc))),(8,.ptr (9008,2) 0),(9,.fz (.b (okF false q.i))),(10,.fz (.i .i64 q.i))],
       hpL [((9008,2),some ⟨[.fz (.i .i64 h.kind),.fz (.s h.name.l),.fz (.sl (h.words.map enc)),.fz (.sl (h.subs.map enc))],true,false⟩)],3⟩,fun q=>0-q.i⟩
      ⟨0,by omega,fun j h=>by omega⟩ (by kernel_rfl) ?_ ?_
     ·refine zai ?_ ?_ ?_<;>simp only[go_sem,hok0,kk,hs0,hfn,hon,h2k,eF,h2h,eH,hnl]
      all_goals first|done|rfl|omega
     rintro⟨i,hi,hP⟩
     try simp only at hi hP
     obtain rfl:i=0:=by omega
     repeat'(first|refine And.intro ?_ ?_|exact True.intro|refine rq fun _=>?_|simp only[go_sem,hok0,Tryz.f9,zam,zab,zad,zaa,List.nil_append,zcg])
    have hnl:(f.name.l=h.name.l)=True:=eq_true (by rw[hnm])
    by_cases hwl:f.words.length=h.words.length
    rotate_left
    ·have e:zbr p l=false:=by rw[e,decide_eq_false (show¬(f.words.map (zaB (zeM l))=h.words.map (zaB (zeM l)))from fun h0=>hwl (by have:=congrArg List.length h0;simpa using this))];simp
     have hwl':((f.words.length:Int)=h.words.length)=False:=eq_false (by omega)
     rw[e]
     refine zah (N:=313) hm kT.out 9000 (lsw [181,184,206,209,247,253,294,307] [1000004,1000017,1000023,1000028,1000030,1000037,1000043,1000045,1000046,1000051]) ok9 Tryz.func9 rfl rfl (by simp) (by kernel_rfl) ?_
     repeat'(first|(refine zaL (zaM (id:=(9003,0)) (t:=3) (b:=true) (ys:=[.i .i64 p.kind,.i .i64 p.form,.i .i64 p.other,.s p.name.l,.sl (p.subs.map enc)]) ?_ ?_) ?_;(focus (simp only[go_sem,kk,hs0,hfn,hon,h4,h2k,eF,h2h,eH,hnl,hwl'];done));(focus (simp only[go_sem];done)))|(refine zaL (zaM (id:=(9005,1)) (t:=5) (b:=true) (ys:=[.i .i64 f.kind,.s f.name.l,.sl (f.words.map enc),.sl (f.subs.map enc)]) ?_ ?_) ?_;(focus (simp only[go_sem,kk,hs0,hfn,hon,h4,h2k,eF,h2h,eH,hnl,hwl'];done));(focus (simp only[go_sem];done)))|refine zae (id:=4) hm kT.out 9000 (lsw [181,184,206,209,247,253,294,307] [1000004,1000017,1000023,1000028,1000030,1000037,1000043,1000045,1000046,1000051]) zaz (by kernel_rfl) (by kernel_rfl) ?_|refine zaj.i hlp fun _=>?_|refine zaj.i hclp fun _=>?_|refine zaj.i hcn fun _=>?_|refine zaj.i hsm fun _=>?_|refine zae (id:=17) hm kT.out 9000 (lsw [181,184,206,209,247,253,294,307] [1000004,1000017,1000023,1000028,1000030,1000037,1000043,1000045,1000046,1000051]) zdb (by kernel_rfl) (by kernel_rfl) ?_|refine And.intro ?_ ?_|exact True.intro|refine rq fun _=>?_|simp only[go_sem,h2k,eF,h2h,eH,hnl,hwl',kk,hs0,hofF,hofF2,h4,hh,hC,ewt,hS,zdb,hfn,h00,hge1,hge2,hfl,hf,zaz,hon,o00,oge1,oge2,hol,hg,Tryz.f9,zam,zab,zad,zaa,List.nil_append,zcg])
     refine zao hm kT.out 9000 (lsw [181,184,206,209,247,253,294,307] [1000004,1000017,1000023,1000028,1000030,1000037,1000043,1000045,1000046,1000051]) (ι:=zcO 0 fun i=>∀j,j+1<i→R j=true)
      ⟨fun q=>⟨frL [(3,.rp [.i .i64 p.kind,.i .i64 p.form,.i .i64 p.other,.s p.name.l,.sl (p.subs.map enc)]),(5,.rp [.i .i64 f.kind,.s f.name.l,.sl (f.words.map enc),.sl (f.subs.map enc)]),(6,.fz (.sl (C.1.map enc))),(7,.fz (.sl (C.2.map enc))),(8,.ptr (9008,2) 0),(9,.fz (.b (okF false q.i))),(10,.fz (.i .i64 q.i))],
       hpL [((9008,2),some ⟨[.fz (.i .i64 h.kind),.fz (.s h.name.l),.fz (.sl (h.words.map enc)),.fz (.sl (h.subs.map enc))],true,false⟩)],3⟩,fun q=>0-q.i⟩
      ⟨0,by omega,fun j h=>by omega⟩ (by kernel_rfl) ?_ ?_
     ·refine zai ?_ ?_ ?_<;>simp only[go_sem,hok0,kk,hs0,hfn,hon,h2k,eF,h2h,eH,hnl,hwl']
      all_goals first|done|rfl|omega
     rintro⟨i,hi,hP⟩
     try simp only at hi hP
     obtain rfl:i=0:=by omega
     repeat'(first|refine And.intro ?_ ?_|exact True.intro|refine rq fun _=>?_|simp only[go_sem,hok0,Tryz.f9,zam,zab,zad,zaa,List.nil_append,zcg])
    have hwl':((f.words.length:Int)=h.words.length)=True:=eq_true (by omega)
    have eal:(∀j,j<f.words.length→R j=true)→zbr p l=true:=fun h0=>by
     rw[e,decide_eq_true h2k,decide_eq_true h2h,decide_eq_true hnm]
     refine decide_eq_true (List.ext_getElem (by simpa using hwl) fun j h1 h2=>?_)
     rw[List.length_map]at h1 h2
     rw[List.getElem_map,List.getElem_map]
     have:=h0 j h1
     rw[krt.out j h1 h2]at this
     exact of_decide_eq_true this
    have eno:∀j,j<f.words.length→R j=false→zbr p l=false:=fun j h1 h0=>by
     have h2:j<h.words.length:=by omega
     have hne:¬(f.words.map (zaB (zeM l))=h.words.map (zaB (zeM l))):=fun h3=>by
      have h4:=congrArg (fun l:List Str=>l[j]?) h3
      simp only[List.getElem?_map,List.getElem?_eq_getElem h1,List.getElem?_eq_getElem h2,Option.map_some,Option.some.injEq]at h4
      rw[krt.out j h1 h2,decide_eq_true h4]at h0
      cases h0
     rw[e,decide_eq_false hne]
     simp
    have keal:=Kp.mk eal
    have keno:=Kp.mk eno
    clear eal eno e
    obtain⟨B,hB⟩:∃B,zbr p l=B:=⟨_,rfl⟩
    rw[hB]
    refine zah (N:=313) hm kT.out 9000 (lsw [181,184,206,209,247,253,294,307] [1000004,1000017,1000023,1000028,1000030,1000037,1000043,1000045,1000046,1000051]) ok9 Tryz.func9 rfl rfl (by simp) (by kernel_rfl) ?_
    repeat'(first|(refine zaL (zaM (id:=(9003,0)) (t:=3) (b:=true) (ys:=[.i .i64 p.kind,.i .i64 p.form,.i .i64 p.other,.s p.name.l,.sl (p.subs.map enc)]) ?_ ?_) ?_;(focus (simp only[go_sem,kk,hs0,hfn,hon,h4,h2k,eF,h2h,eH,hnl,hwl'];done));(focus (simp only[go_sem];done)))|(refine zaL (zaM (id:=(9005,1)) (t:=5) (b:=true) (ys:=[.i .i64 f.kind,.s f.name.l,.sl (f.words.map enc),.sl (f.subs.map enc)]) ?_ ?_) ?_;(focus (simp only[go_sem,kk,hs0,hfn,hon,h4,h2k,eF,h2h,eH,hnl,hwl'];done));(focus (simp only[go_sem];done)))|refine zae (id:=4) hm kT.out 9000 (lsw [181,184,206,209,247,253,294,307] [1000004,1000017,1000023,1000028,1000030,1000037,1000043,1000045,1000046,1000051]) zaz (by kernel_rfl) (by kernel_rfl) ?_|refine zaj.i hlp fun _=>?_|refine zaj.i hclp fun _=>?_|refine zaj.i hcn fun _=>?_|refine zaj.i hsm fun _=>?_|refine zae (id:=17) hm kT.out 9000 (lsw [181,184,206,209,247,253,294,307] [1000004,1000017,1000023,1000028,1000030,1000037,1000043,1000045,1000046,1000051]) zdb (by kernel_rfl) (by kernel_rfl) ?_|refine And.intro ?_ ?_|exact True.intro|refine rq fun _=>?_|simp only[go_sem,h2k,eF,h2h,eH,hnl,hwl',kk,hs0,hofF,hofF2,h4,hh,hC,ewt,hS,zdb,hfn,h00,hge1,hge2,hfl,hf,zaz,hon,o00,oge1,oge2,hol,hg,Tryz.f9,zam,zab,zad,zaa,List.nil_append,zcg])
    refine zao hm kT.out 9000 (lsw [181,184,206,209,247,253,294,307] [1000004,1000017,1000023,1000028,1000030,1000037,1000043,1000045,1000046,1000051]) (ι:=zcO f.words.length fun i=>∀j,j+1<i→R j=true)
     ⟨fun q=>⟨frL [(3,.rp [.i .i64 p.kind,.i .i64 p.form,.i .i64 p.other,.s p.name.l,.sl (p.subs.map enc)]),(5,.rp [.i .i64 f.kind,.s f.name.l,.sl (f.words.map enc),.sl (f.subs.map enc)]),(6,.fz (.sl (C.1.map enc))),(7,.fz (.sl (C.2.map enc))),(8,.ptr (9008,2) 0),(9,.fz (.b (okF true q.i))),(10,.fz (.i .i64 q.i))],
      hpL [((9008,2),some ⟨[.fz (.i .i64 h.kind),.fz (.s h.name.l),.fz (.sl (h.words.map enc)),.fz (.sl (h.subs.map enc))],true,false⟩)],3⟩,fun q=>f.words.length-q.i⟩
     ⟨0,by omega,fun j h=>by omega⟩ (by kernel_rfl) ?_ ?_
    ·refine zai ?_ ?_ ?_<;>simp only[go_sem,hok0,kk,hs0,hfn,hon,h2k,eF,h2h,eH,hnl,hwl']
     all_goals first|done|rfl|omega
    rintro⟨i,hi,hP⟩
    try simp only at hi hP
    cases hoi2:okF true i with
    |false=>
     have hi0:i≠0:=fun h0=>by rw[h0,hok0]at hoi2;cases hoi2
     obtain⟨i',rfl⟩:∃i',i=i'+1:=⟨i-1,by omega⟩
     rw[kok.out]at hoi2
     have hBf:B=false:=by rw[←hB];exact keno.out i' (by omega) hoi2
     rw[hBf]
     repeat'(first|refine And.intro ?_ ?_|exact True.intro|refine rq fun _=>?_|simp only[go_sem,kok.out,hoi2,Tryz.f9,zam,zab,zad,zaa,List.nil_append,zcg])
    |true=>
     have hall:∀j,j<i→R j=true:=fun j hj=>by
      rcases Nat.lt_or_ge (j+1) i with h1|h1
      ·exact hP j h1
      ·obtain rfl:i=j+1:=by omega
       rw[kok.out]at hoi2;exact hoi2
     rcases Nat.lt_or_ge i f.words.length with h1|h1
     ·have h2:i<h.words.length:=by omega
      have hrj:=kr.out i h1 h2
      obtain⟨u,hu⟩:∃u,f.words[i]=u:=⟨_,rfl⟩
      obtain⟨v,hv⟩:∃u,h.words[i]=u:=⟨_,rfl⟩
      rw[hu,hv]at hrj
      repeat'(first|refine zaj.i hlp fun _=>?_|refine zaj.i hclp fun _=>?_|refine zae (id:=23) hm kT.out 9000 (lsw [181,184,206,209,247,253,294,307] [1000004,1000017,1000023,1000028,1000030,1000037,1000043,1000045,1000046,1000051]) zuj (by kernel_rfl) (by kernel_rfl) ?_|refine And.intro ?_ ?_|exact True.intro|refine rq fun _=>?_|simp only[go_sem,hoi2,h1,h2,hu,hv,hrj,zuj,Tryz.f9,zam,zab,zad,zaa,List.nil_append,zcg])
      all_goals refine⟨⟨i+1,by omega,fun j hj=>hall j (by omega)⟩,by simp only;omega,?_⟩
      all_goals refine zai ?_ ?_ ?_<;>simp only[go_sem,kok.out]
      all_goals first|done|rfl|omega
     ·obtain rfl:i=f.words.length:=by omega
      have hBt:B=true:=by rw[←hB];exact keal.out hall
      rw[hBt]
      repeat'(first|refine And.intro ?_ ?_|exact True.intro|refine rq fun _=>?_|simp only[go_sem,hoi2,Nat.lt_irrefl,Tryz.f9,zam,zab,zad,zaa,List.nil_append,zcg])
end Go.Proofs.YtdlioodgfopmfaaGreatDoor
namespace Go.Proofs.YtdlioodgfopmfaaGreatDoor
open Go Go.Abs Go.Proofs
set_option maxHeartbeats 16000000 in
theorem zD8 {n:Nat}(hT:zap Tryz.prog GA (zcg n)){l:List Abs.zac}{p:Prf}(hpn:p.size=n)(hpre:clP l p)(hfi:inL l p.form=true)(kk:p.kind=2):zaA Tryz.prog GA 9 [.fz (enc l),.fz (enc p)] (hpL []) 0 (fun d _ _=>D.val d=some (.fz (enc (zbr p l)))):=by
 obtain⟨hbr,hsz⟩:=hpre
 have hlen:l.length≤1000000:=by omega
 have kT:=Kp.mk hT
 have kb:=Kp.mk hbr
 clear hT hbr
 have ec:zbr p l=ziq p.kind p.form p.other p.name (p.subs.map zbr) l:=zcC p l
 unfold ziq at ec
 have hfo:=zey hfi
 rw[if_neg (by simp[hfi])]at ec
 obtain⟨fi,hfn⟩:∃n:Nat,p.form=(n:Int):=⟨p.form.toNat,by omega⟩
 have hfl:fi<l.length:=by omega
 obtain⟨f,hf⟩:∃f,l[fi]=f:=⟨_,rfl⟩
 have hfB:BF f:=kb.out f (by rw[←hf];exact List.getElem_mem hfl)
 have hfb:brF f:=hfB.o.b
 have haf:atL l p.form=f:=by unfold atL;rw[hfn,Int.toNat_natCast,List.getD_eq_getElem?_getD,List.getElem?_eq_getElem hfl,hf];rfl
 rw[haf]at ec
 have h00:((fi:Int)<0)=False:=eq_false (by omega)
 have hge1:((l.length:Int)≤fi)=False:=eq_false (by omega)
 have hge2:(l.length≤fi)=False:=eq_false (by omega)
 rw[if_neg (by omega),if_pos kk]at ec
 by_cases hn:p.subs.length=1
 rotate_left
 ·have e:zbr p l=false:=by rw[ec,List.length_map,decide_eq_false hn];simp
  have hn':((p.subs.length:Int)=1)=False:=eq_false (by omega)
  rw[e]
  refine zah (N:=313) hm kT.out 9000 (lsw [181,184,206,209,247,253,294,307] [1000004,1000017,1000023,1000028,1000030,1000037,1000043,1000045,1000046,1000051]) ok9 Tryz.func9 rfl rfl (by simp) (by kernel_rfl) ?_
  repeat'(first|refine zae (id:=4) hm kT.out 9000 (lsw [181,184,206,209,247,253,294,307] [1000004,1000017,1000023,1000028,1000030,1000037,1000043,1000045,1000046,1000051]) zaz (by kernel_rfl) (by kernel_rfl) ?_|refine And.intro ?_ ?_|exact True.intro|refine rq fun _=>?_|simp only[go_sem,kk,hn',hfn,h00,hge1,hge2,hfl,hf,zaz,Tryz.f9,zam,zab,zad,zaa,List.nil_append,zcg])
 obtain⟨s0,hs0⟩:∃s,p.subs=[s]:=by
  match h:p.subs,hn with
  |[s],_=>exact⟨s,rfl⟩
 have hs0s:=Prf.size_sub (f:=p) (g:=s0) (by rw[hs0];simp)
 have hst:zaY f=(zag f).1:=rfl
 obtain⟨pk,hpk⟩:∃k,zaY f=k:=⟨_,rfl⟩
 rw[hpk]at hst
 rw[←hst]at ec
 by_cases h1:pk=1
 rotate_left
 ·have e:zbr p l=false:=by rw[ec,decide_eq_false h1];rfl
  rw[e]
  refine zah (N:=313) hm kT.out 9000 (lsw [181,184,206,209,247,253,294,307] [1000004,1000017,1000023,1000028,1000030,1000037,1000043,1000045,1000046,1000051]) ok9 Tryz.func9 rfl rfl (by simp) (by kernel_rfl) ?_
  repeat'(first|(refine zaL (zaM (id:=(9003,0)) (t:=3) (b:=true) (ys:=[.i .i64 p.kind,.i .i64 p.form,.i .i64 p.other,.s p.name.l,.sl (p.subs.map enc)]) ?_ ?_) ?_;(focus (simp only[go_sem,kk,hs0,hfn];done));(focus (simp only[go_sem];done)))|(refine zaL (zaM (id:=(9005,1)) (t:=5) (b:=true) (ys:=[.i .i64 f.kind,.s f.name.l,.sl (f.words.map enc),.sl (f.subs.map enc)]) ?_ ?_) ?_;(focus (simp only[go_sem,kk,hs0,hfn];done));(focus (simp only[go_sem];done)))|refine zae (id:=4) hm kT.out 9000 (lsw [181,184,206,209,247,253,294,307] [1000004,1000017,1000023,1000028,1000030,1000037,1000043,1000045,1000046,1000051]) zaz (by kernel_rfl) (by kernel_rfl) ?_|refine zaj.i hfb fun _=>?_|refine zae (id:=30) hm kT.out 9000 (lsw [181,184,206,209,247,253,294,307] [1000004,1000017,1000023,1000028,1000030,1000037,1000043,1000045,1000046,1000051]) zpL (by kernel_rfl) (by kernel_rfl) ?_|refine And.intro ?_ ?_|exact True.intro|refine rq fun _=>?_|simp only[go_sem,kk,hs0,hpk,h1,zpL,hfn,h00,hge1,hge2,hfl,hf,zaz,List.map_append,Tryz.f9,zam,zab,zad,zaa,List.nil_append,zcg])
 have e:zbr p l=zbr s0 (l++za3 f):=by rw[ec,hs0];simp[h1,za3]
 have hpc:clB f∧(zaY f=1∨zaY f=2):=⟨zji hfB,by omega⟩
 have hrec:s0.size<n∧clP (l++za3 f) s0:=⟨by omega,fun x hx=>by
   rcases List.mem_append.1 hx with hx|hx
   ·exact kb.out x hx
   ·exact zk5 hfB x hx,by
   have:=(zcH hfb).2.2.1
   rw[List.length_append]
   unfold za3
   omega⟩
 have hpl:(za3 f).length≤2:=(zcH hfb).2.2.1
 obtain⟨P,hP⟩:∃P,za3 f=P:=⟨_,rfl⟩
 rw[hP]at e hrec hpl
 obtain⟨B,hB⟩:∃B,zbr s0 (l++P)=B:=⟨_,rfl⟩
 rw[e,hB]
 clear e ec
 refine zah (N:=313) hm kT.out 9000 (lsw [181,184,206,209,247,253,294,307] [1000004,1000017,1000023,1000028,1000030,1000037,1000043,1000045,1000046,1000051]) ok9 Tryz.func9 rfl rfl (by simp) (by kernel_rfl) ?_
 repeat'(first|(refine zaL (zaM (id:=(9003,0)) (t:=3) (b:=true) (ys:=[.i .i64 p.kind,.i .i64 p.form,.i .i64 p.other,.s p.name.l,.sl (p.subs.map enc)]) ?_ ?_) ?_;(focus (simp only[go_sem,kk,hs0,hfn];done));(focus (simp only[go_sem];done)))|(refine zaL (zaM (id:=(9005,1)) (t:=5) (b:=true) (ys:=[.i .i64 f.kind,.s f.name.l,.sl (f.words.map enc),.sl (f.subs.map enc)]) ?_ ?_) ?_;(focus (simp only[go_sem,kk,hs0,hfn];done));(focus (simp only[go_sem];done)))|refine zae (id:=4) hm kT.out 9000 (lsw [181,184,206,209,247,253,294,307] [1000004,1000017,1000023,1000028,1000030,1000037,1000043,1000045,1000046,1000051]) zaz (by kernel_rfl) (by kernel_rfl) ?_|refine zaj.i hfb fun _=>?_|refine zaj.i hpc fun _=>?_|refine zaj.i (zji hfB) fun _=>?_|refine zaj.i hrec fun _=>?_|refine zae (id:=30) hm kT.out 9000 (lsw [181,184,206,209,247,253,294,307] [1000004,1000017,1000023,1000028,1000030,1000037,1000043,1000045,1000046,1000051]) zuk (by kernel_rfl) (by kernel_rfl) ?_|refine rf fun _=>?_|refine zaj.i (by simp only[List.length_map,List.length_take,List.length_append,List.length_cons,List.length_nil];omega) fun _=>?_|refine And.intro ?_ ?_|exact True.intro|refine rq fun _=>?_|simp only[go_sem,kk,hs0,hpk,h1,hP,hB,zuk,hfn,h00,hge1,hge2,hfl,hf,zaz,List.map_append,zcg,Tryz.f9,zam,zab,zad,zaa,List.nil_append,zcg])
 all_goals first|done|rfl|omega
set_option maxHeartbeats 16000000 in
theorem zD9 {n:Nat}(hT:zap Tryz.prog GA (zcg n)){l:List Abs.zac}{p:Prf}(hpn:p.size=n)(hpre:clP l p)(hfi:inL l p.form=true)(kk:p.kind=3):zaA Tryz.prog GA 9 [.fz (enc l),.fz (enc p)] (hpL []) 0 (fun d _ _=>D.val d=some (.fz (enc (zbr p l)))):=by
 obtain⟨hbr,hsz⟩:=hpre
 have hlen:l.length≤1000000:=by omega
 have kT:=Kp.mk hT
 have kb:=Kp.mk hbr
 clear hT hbr
 have ec:zbr p l=ziq p.kind p.form p.other p.name (p.subs.map zbr) l:=zcC p l
 unfold ziq at ec
 have hfo:=zey hfi
 rw[if_neg (by simp[hfi])]at ec
 obtain⟨fi,hfn⟩:∃n:Nat,p.form=(n:Int):=⟨p.form.toNat,by omega⟩
 have hfl:fi<l.length:=by omega
 obtain⟨f,hf⟩:∃f,l[fi]=f:=⟨_,rfl⟩
 have hfB:BF f:=kb.out f (by rw[←hf];exact List.getElem_mem hfl)
 have hfb:brF f:=hfB.o.b
 have haf:atL l p.form=f:=by unfold atL;rw[hfn,Int.toNat_natCast,List.getD_eq_getElem?_getD,List.getElem?_eq_getElem hfl,hf];rfl
 rw[haf]at ec
 have h00:((fi:Int)<0)=False:=eq_false (by omega)
 have hge1:((l.length:Int)≤fi)=False:=eq_false (by omega)
 have hge2:(l.length≤fi)=False:=eq_false (by omega)
 rw[if_neg (by omega),if_neg (by omega),if_pos kk]at ec
 by_cases hn:p.subs.length=2
 rotate_left
 ·have e:zbr p l=false:=by rw[ec,List.length_map,decide_eq_false hn];simp
  have hn':((p.subs.length:Int)=2)=False:=eq_false (by omega)
  rw[e]
  refine zah (N:=313) hm kT.out 9000 (lsw [181,184,206,209,247,253,294,307] [1000004,1000017,1000023,1000028,1000030,1000037,1000043,1000045,1000046,1000051]) ok9 Tryz.func9 rfl rfl (by simp) (by kernel_rfl) ?_
  repeat'(first|refine zae (id:=4) hm kT.out 9000 (lsw [181,184,206,209,247,253,294,307] [1000004,1000017,1000023,1000028,1000030,1000037,1000043,1000045,1000046,1000051]) zaz (by kernel_rfl) (by kernel_rfl) ?_|refine And.intro ?_ ?_|exact True.intro|refine rq fun _=>?_|simp only[go_sem,kk,hn',hfn,h00,hge1,hge2,hfl,hf,zaz,Tryz.f9,zam,zab,zad,zaa,List.nil_append,zcg])
 obtain⟨s0,s1,hs0⟩:∃s t,p.subs=[s,t]:=by
  match h:p.subs,hn with
  |[s,t],_=>exact⟨s,t,rfl⟩
 have hs0s:=Prf.size_sub (f:=p) (g:=s0) (by rw[hs0];simp)
 have hs1s:=Prf.size_sub (f:=p) (g:=s1) (by rw[hs0];simp)
 have hst:zaY f=(zag f).1:=rfl
 obtain⟨pk,hpk⟩:∃k,zaY f=k:=⟨_,rfl⟩
 rw[hpk]at hst
 rw[←hst]at ec
 by_cases h1:pk=2
 rotate_left
 ·have e:zbr p l=false:=by rw[ec,decide_eq_false h1];rfl
  rw[e]
  refine zah (N:=313) hm kT.out 9000 (lsw [181,184,206,209,247,253,294,307] [1000004,1000017,1000023,1000028,1000030,1000037,1000043,1000045,1000046,1000051]) ok9 Tryz.func9 rfl rfl (by simp) (by kernel_rfl) ?_
  repeat'(first|refine zae (id:=4) hm kT.out 9000 (lsw [181,184,206,209,247,253,294,307] [1000004,1000017,1000023,1000028,1000030,1000037,1000043,1000045,1000046,1000051]) zaz (by kernel_rfl) (by kernel_rfl) ?_|refine zaj.i hfb fun _=>?_|refine And.intro ?_ ?_|exact True.intro|refine rq fun _=>?_|simp only[go_sem,kk,hs0,hpk,h1,hfn,h00,hge1,hge2,hfl,hf,zaz,Tryz.f9,zam,zab,zad,zaa,List.nil_append,zcg])
 have hpc:clB f∧(zaY f=1∨zaY f=2):=⟨zji hfB,by omega⟩
 obtain⟨A,B,hP⟩:∃A B,za3 f=[A,B]:=by
  have h2:=(zcH hfb).2.1 (by omega)
  unfold za3
  match h:(zag f).2.1,h2 with
  |[A,B],_=>exact⟨A,B,rfl⟩
 have hA:BF A:=zk5 hfB A (by show A∈za3 f;rw[hP];simp)
 have hB:BF B:=zk5 hfB B (by show B∈za3 f;rw[hP];simp)
 have e:zbr p l=(zbr s0 (l++[A])&&zbr s1 (l++[B])):=by
  rw[ec,hs0]
  have hP2:(zag f).2.1=[A,B]:=hP
  rw[hP2];simp[h1]
 have hrec0:s0.size<n∧clP (l++[A]) s0:=⟨by omega,fun x hx=>by
   rcases List.mem_append.1 hx with hx|hx
   ·exact kb.out x hx
   ·rw[List.mem_singleton.1 hx];exact hA,by rw[List.length_append,List.length_singleton];omega⟩
 have hrec1:s1.size<n∧clP (l++[B]) s1:=⟨by omega,fun x hx=>by
   rcases List.mem_append.1 hx with hx|hx
   ·exact kb.out x hx
   ·rw[List.mem_singleton.1 hx];exact hB,by rw[List.length_append,List.length_singleton];omega⟩
 obtain⟨B0,hB0⟩:∃b,zbr s0 (l++[A])=b:=⟨_,rfl⟩
 obtain⟨B1,hB1⟩:∃b,zbr s1 (l++[B])=b:=⟨_,rfl⟩
 rw[e,hB0,hB1]
 clear e ec hA hB
 obtain⟨R,hR⟩:∃b,(B0&&B1)=b:=⟨_,rfl⟩
 rw[hR]
 refine zah (N:=313) hm kT.out 9000 (lsw [181,184,206,209,247,253,294,307] [1000004,1000017,1000023,1000028,1000030,1000037,1000043,1000045,1000046,1000051]) ok9 Tryz.func9 rfl rfl (by simp) (by kernel_rfl) ?_
 repeat'(first|(refine zaL (zaM (id:=(9003,0)) (t:=3) (b:=true) (ys:=[.i .i64 p.kind,.i .i64 p.form,.i .i64 p.other,.s p.name.l,.sl (p.subs.map enc)]) ?_ ?_) ?_;(focus (simp only[go_sem,kk,hs0,hfn];done));(focus (simp only[go_sem];done)))|(refine zaL (zaM (id:=(9005,1)) (t:=5) (b:=true) (ys:=[.i .i64 f.kind,.s f.name.l,.sl (f.words.map enc),.sl (f.subs.map enc)]) ?_ ?_) ?_;(focus (simp only[go_sem,kk,hs0,hfn];done));(focus (simp only[go_sem];done)))|refine zae (id:=4) hm kT.out 9000 (lsw [181,184,206,209,247,253,294,307] [1000004,1000017,1000023,1000028,1000030,1000037,1000043,1000045,1000046,1000051]) zaz (by kernel_rfl) (by kernel_rfl) ?_|refine zaj.i hfb fun _=>?_|refine zaj.i hpc fun _=>?_|refine zaj.i (zji hfB) fun _=>?_|refine And.intro ?_ ?_|exact True.intro|refine rq fun _=>?_|simp only[go_sem,kk,hs0,hpk,h1,hP,hfn,h00,hge1,hge2,hfl,hf,zaz,List.map_cons,List.map_nil,Tryz.f9,zam,zab,zad,zaa,List.nil_append,zcg])
 refine zao hm kT.out 9000 (lsw [181,184,206,209,247,253,294,307] [1000004,1000017,1000023,1000028,1000030,1000037,1000043,1000045,1000046,1000051]) (ι:=zep 2 2 fun i=>(0<i→B0=true)∧(1<i→B1=true))
  ⟨fun q=>⟨frL [(0,.fz (.sl (l.map enc))),(3,.rp [.i .i64 p.kind,.i .i64 p.form,.i .i64 p.other,.s p.name.l,.sl (p.subs.map enc)]),(197,.fz (.sl ([A,B].map enc))),(198,.fz (.i .i64 2)),(199,.fz (.i .i64 q.i))],hpL [],q.m⟩,fun q=>2-q.i⟩
  ⟨0,2,by omega,by omega,fun h=>by omega,fun h=>by omega⟩ (by kernel_rfl) ?_ ?_
 ·refine zai ?_ ?_ ?_<;>simp only[go_sem,kk,hs0,hfn,List.map_cons,List.map_nil]
  all_goals first|done|rfl|omega
 rintro⟨i,m,hi,hm1,hq1,hq2⟩
 try simp only at hi hm1 hq1 hq2
 by_cases i0:i=0
 ·subst i0
  by_cases hv:B0=true
  rotate_left
  ·have hv:B0=false:=by simpa using hv
   have hRf:R=false:=by rw[←hR,hv];rfl
   rw[hRf]
   repeat'(first|(refine zaL (zaM (id:=(9013,m)) (t:=13) (b:=true) (ys:=[.i .i64 A.kind,.s A.name.l,.sl (A.words.map enc),.sl (A.subs.map enc)]) ?_ ?_) ?_;(focus (simp only[go_sem,kk];done));(focus (simp only[go_sem];done)))|refine zaj.i hrec0 fun _=>?_|refine zae (id:=37) hm kT.out 9000 (lsw [181,184,206,209,247,253,294,307] [1000004,1000017,1000023,1000028,1000030,1000037,1000043,1000045,1000046,1000051]) zff (by kernel_rfl) (by kernel_rfl) ?_|refine rf fun _=>?_|refine zaj.i (by simp only[List.length_map,List.length_take,List.length_append,List.length_cons,List.length_nil];omega) fun _=>?_|refine And.intro ?_ ?_|exact True.intro|refine rq fun _=>?_|simp only[go_sem,kk,hs0,hfn,hB0,hB1,hv,zff,List.map_cons,List.map_nil,List.map_append,Tryz.f9,zam,zab,zad,zaa,List.nil_append,zcg])
   all_goals first|done|rfl|omega
  ·repeat'(first|(refine zaL (zaM (id:=(9013,m)) (t:=13) (b:=true) (ys:=[.i .i64 A.kind,.s A.name.l,.sl (A.words.map enc),.sl (A.subs.map enc)]) ?_ ?_) ?_;(focus (simp only[go_sem,kk];done));(focus (simp only[go_sem];done)))|refine zaj.i hrec0 fun _=>?_|refine zae (id:=37) hm kT.out 9000 (lsw [181,184,206,209,247,253,294,307] [1000004,1000017,1000023,1000028,1000030,1000037,1000043,1000045,1000046,1000051]) zff (by kernel_rfl) (by kernel_rfl) ?_|refine rf fun _=>?_|refine zaj.i (by simp only[List.length_map,List.length_take,List.length_append,List.length_cons,List.length_nil];omega) fun _=>?_|refine And.intro ?_ ?_|exact True.intro|refine rq fun _=>?_|simp only[go_sem,kk,hs0,hfn,hB0,hB1,hv,zff,List.map_cons,List.map_nil,List.map_append,Tryz.f9,zam,zab,zad,zaa,List.nil_append,zcg])
   all_goals refine⟨⟨1,m+3,by omega,by omega,fun _=>hv,fun h=>by omega⟩,by simp only;omega,?_⟩
   all_goals refine zai ?_ ?_ ?_<;>simp only[go_sem,kk,hs0,hfn]
   all_goals first|done|rfl|omega
 by_cases i1:i=1
 ·subst i1
  by_cases hv:B1=true
  rotate_left
  ·have hv:B1=false:=by simpa using hv
   have hRf:R=false:=by rw[←hR,hv];simp
   rw[hRf]
   repeat'(first|(refine zaL (zaM (id:=(9013,m)) (t:=13) (b:=true) (ys:=[.i .i64 B.kind,.s B.name.l,.sl (B.words.map enc),.sl (B.subs.map enc)]) ?_ ?_) ?_;(focus (simp only[go_sem,kk];done));(focus (simp only[go_sem];done)))|refine zaj.i hrec1 fun _=>?_|refine zae (id:=37) hm kT.out 9000 (lsw [181,184,206,209,247,253,294,307] [1000004,1000017,1000023,1000028,1000030,1000037,1000043,1000045,1000046,1000051]) zff (by kernel_rfl) (by kernel_rfl) ?_|refine rf fun _=>?_|refine zaj.i (by simp only[List.length_map,List.length_take,List.length_append,List.length_cons,List.length_nil];omega) fun _=>?_|refine And.intro ?_ ?_|exact True.intro|refine rq fun _=>?_|simp only[go_sem,kk,hs0,hfn,hB0,hB1,hv,zff,List.map_cons,List.map_nil,List.map_append,Tryz.f9,zam,zab,zad,zaa,List.nil_append,zcg])
   all_goals first|done|rfl|omega
  ·repeat'(first|(refine zaL (zaM (id:=(9013,m)) (t:=13) (b:=true) (ys:=[.i .i64 B.kind,.s B.name.l,.sl (B.words.map enc),.sl (B.subs.map enc)]) ?_ ?_) ?_;(focus (simp only[go_sem,kk];done));(focus (simp only[go_sem];done)))|refine zaj.i hrec1 fun _=>?_|refine zae (id:=37) hm kT.out 9000 (lsw [181,184,206,209,247,253,294,307] [1000004,1000017,1000023,1000028,1000030,1000037,1000043,1000045,1000046,1000051]) zff (by kernel_rfl) (by kernel_rfl) ?_|refine rf fun _=>?_|refine zaj.i (by simp only[List.length_map,List.length_take,List.length_append,List.length_cons,List.length_nil];omega) fun _=>?_|refine And.intro ?_ ?_|exact True.intro|refine rq fun _=>?_|simp only[go_sem,kk,hs0,hfn,hB0,hB1,hv,zff,List.map_cons,List.map_nil,List.map_append,Tryz.f9,zam,zab,zad,zaa,List.nil_append,zcg])
   all_goals refine⟨⟨2,m+3,by omega,by omega,fun _=>hq1 (by omega),fun h=>hv⟩,by simp only;omega,?_⟩
   all_goals refine zai ?_ ?_ ?_<;>simp only[go_sem,kk,hs0,hfn]
   all_goals first|done|rfl|omega
 obtain rfl:i=2:=by omega
 have hRt:R=true:=by rw[←hR,hq1 (by omega),hq2 (by omega)];rfl
 rw[hRt]
 repeat'(first|refine And.intro ?_ ?_|exact True.intro|refine rq fun _=>?_|simp only[go_sem,Nat.lt_irrefl,Tryz.f9,zam,zab,zad,zaa,List.nil_append,zcg])
end Go.Proofs.YtdlioodgfopmfaaGreatDoor
namespace Go.Proofs.YtdlioodgfopmfaaGreatDoor
open Go Go.Abs Go.Proofs
set_option maxHeartbeats 16000000 in
theorem zEa {n:Nat}(hT:zap Tryz.prog GA (zcg n)){l:List Abs.zac}{p:Prf}(hpn:p.size=n)(hpre:clP l p)(hfi:inL l p.form=true)(kk:p.kind=4):zaA Tryz.prog GA 9 [.fz (enc l),.fz (enc p)] (hpL []) 0 (fun d _ _=>D.val d=some (.fz (enc (zbr p l)))):=by
 obtain⟨hbr,hsz⟩:=hpre
 have hlen:l.length≤1000000:=by omega
 have kT:=Kp.mk hT
 have kb:=Kp.mk hbr
 clear hT hbr
 have ec:zbr p l=ziq p.kind p.form p.other p.name (p.subs.map zbr) l:=zcC p l
 unfold ziq at ec
 have hfo:=zey hfi
 rw[if_neg (by simp[hfi])]at ec
 obtain⟨fi,hfn⟩:∃n:Nat,p.form=(n:Int):=⟨p.form.toNat,by omega⟩
 have hfl:fi<l.length:=by omega
 obtain⟨f,hf⟩:∃f,l[fi]=f:=⟨_,rfl⟩
 have hfB:BF f:=kb.out f (by rw[←hf];exact List.getElem_mem hfl)
 have hfb:brF f:=hfB.o.b
 have haf:atL l p.form=f:=by unfold atL;rw[hfn,Int.toNat_natCast,List.getD_eq_getElem?_getD,List.getElem?_eq_getElem hfl,hf];rfl
 rw[haf]at ec
 have h00:((fi:Int)<0)=False:=eq_false (by omega)
 have hge1:((l.length:Int)≤fi)=False:=eq_false (by omega)
 have hge2:(l.length≤fi)=False:=eq_false (by omega)
 rw[if_neg (by omega),if_neg (by omega),if_neg (by omega),if_pos kk]at ec
 by_cases hn:p.subs.length=1
 rotate_left
 ·have e:zbr p l=false:=by rw[ec,List.length_map,decide_eq_false hn];simp
  have hn':((p.subs.length:Int)=1)=False:=eq_false (by omega)
  rw[e]
  refine zah (N:=313) hm kT.out 9000 (lsw [181,184,206,209,247,253,294,307] [1000004,1000017,1000023,1000028,1000030,1000037,1000043,1000045,1000046,1000051]) ok9 Tryz.func9 rfl rfl (by simp) (by kernel_rfl) ?_
  repeat'(first|refine zae (id:=4) hm kT.out 9000 (lsw [181,184,206,209,247,253,294,307] [1000004,1000017,1000023,1000028,1000030,1000037,1000043,1000045,1000046,1000051]) zaz (by kernel_rfl) (by kernel_rfl) ?_|refine And.intro ?_ ?_|exact True.intro|refine rq fun _=>?_|simp only[go_sem,kk,hn',hfn,h00,hge1,hge2,hfl,hf,zaz,Tryz.f9,zam,zab,zad,zaa,List.nil_append,zcg])
 obtain⟨s0,hs0⟩:∃s,p.subs=[s]:=by
  match h:p.subs,hn with
  |[s],_=>exact⟨s,rfl⟩
 have hs0s:=Prf.size_sub (f:=p) (g:=s0) (by rw[hs0];simp)
 have hst:zaY f=(zag f).1:=rfl
 obtain⟨pk,hpk⟩:∃k,zaY f=k:=⟨_,rfl⟩
 rw[hpk]at hst
 rw[←hst]at ec
 have hac:(∀f∈l,acP f)∧l.length≤100000:=⟨fun f hf=>zx3 (kb.out f hf).o,by omega⟩
 have hk1:((pk:Int)=4-1)=(pk=3):=rfl
 cases h3:zas p.name with
 |false=>
  have e:zbr p l=false:=by rw[ec,h3];simp
  rw[e]
  refine zah (N:=313) hm kT.out 9000 (lsw [181,184,206,209,247,253,294,307] [1000004,1000017,1000023,1000028,1000030,1000037,1000043,1000045,1000046,1000051]) ok9 Tryz.func9 rfl rfl (by simp) (by kernel_rfl) ?_
  repeat'(first|refine zae (id:=4) hm kT.out 9000 (lsw [181,184,206,209,247,253,294,307] [1000004,1000017,1000023,1000028,1000030,1000037,1000043,1000045,1000046,1000051]) zaz (by kernel_rfl) (by kernel_rfl) ?_|refine zaj.i hfb fun _=>?_|refine zaj.i hac fun _=>?_|refine zae (id:=43) hm kT.out 9000 (lsw [181,184,206,209,247,253,294,307] [1000004,1000017,1000023,1000028,1000030,1000037,1000043,1000045,1000046,1000051]) zcJ (by kernel_rfl) (by kernel_rfl) ?_|refine And.intro ?_ ?_|exact True.intro|refine rq fun _=>?_|simp only[go_sem,kk,hs0,hpk,h3,zcJ,hfn,h00,hge1,hge2,hfl,hf,zaz,Tryz.f9,zam,zab,zad,zaa,List.nil_append,zcg])
 |true=>
  by_cases h1:pk=3
  rotate_left
  ·have e:zbr p l=false:=by rw[ec,decide_eq_false h1];rfl
   have h1':((pk:Int)=4-1)=False:=eq_false h1
   rw[e]
   refine zah (N:=313) hm kT.out 9000 (lsw [181,184,206,209,247,253,294,307] [1000004,1000017,1000023,1000028,1000030,1000037,1000043,1000045,1000046,1000051]) ok9 Tryz.func9 rfl rfl (by simp) (by kernel_rfl) ?_
   repeat'(first|refine zae (id:=4) hm kT.out 9000 (lsw [181,184,206,209,247,253,294,307] [1000004,1000017,1000023,1000028,1000030,1000037,1000043,1000045,1000046,1000051]) zaz (by kernel_rfl) (by kernel_rfl) ?_|refine zaj.i hfb fun _=>?_|refine zaj.i hac fun _=>?_|refine zae (id:=43) hm kT.out 9000 (lsw [181,184,206,209,247,253,294,307] [1000004,1000017,1000023,1000028,1000030,1000037,1000043,1000045,1000046,1000051]) zcJ (by kernel_rfl) (by kernel_rfl) ?_|refine And.intro ?_ ?_|exact True.intro|refine rq fun _=>?_|simp only[go_sem,kk,hs0,hpk,h3,h1',zcJ,hfn,h00,hge1,hge2,hfl,hf,zaz,Tryz.f9,zam,zab,zad,zaa,List.nil_append,zcg])
  have h1':((pk:Int)=4-1)=True:=eq_true h1
  have hfp:zmu f p.name:=⟨zji hfB,by omega,h3⟩
  have hib:=zs3 hfB (nm:=p.name) (by omega) h3
  have e:zbr p l=zbr s0 (l++[zjP f p.name]):=by rw[ec,hs0,h3];simp[h1,zjP]
  obtain⟨I,hI⟩:∃I,zjP f p.name=I:=⟨_,rfl⟩
  rw[hI]at hib e
  have hrec:s0.size<n∧clP (l++[I]) s0:=⟨by omega,fun x hx=>by
     rcases List.mem_append.1 hx with hx|hx
     ·exact kb.out x hx
     ·rw[List.mem_singleton.1 hx];exact hib,by rw[List.length_append,List.length_singleton];omega⟩
  obtain⟨B,hB⟩:∃B,zbr s0 (l++[I])=B:=⟨_,rfl⟩
  rw[e,hB]
  clear e ec hib
  refine zah (N:=313) hm kT.out 9000 (lsw [181,184,206,209,247,253,294,307] [1000004,1000017,1000023,1000028,1000030,1000037,1000043,1000045,1000046,1000051]) ok9 Tryz.func9 rfl rfl (by simp) (by kernel_rfl) ?_
  repeat'(first|(refine zaL (zaM (id:=(9003,0)) (t:=3) (b:=true) (ys:=[.i .i64 p.kind,.i .i64 p.form,.i .i64 p.other,.s p.name.l,.sl (p.subs.map enc)]) ?_ ?_) ?_;(focus (simp only[go_sem,kk,hs0,hfn];done));(focus (simp only[go_sem];done)))|(refine zaL (zaM (id:=(9005,1)) (t:=5) (b:=true) (ys:=[.i .i64 f.kind,.s f.name.l,.sl (f.words.map enc),.sl (f.subs.map enc)]) ?_ ?_) ?_;(focus (simp only[go_sem,kk,hs0,hfn];done));(focus (simp only[go_sem];done)))|refine zae (id:=4) hm kT.out 9000 (lsw [181,184,206,209,247,253,294,307] [1000004,1000017,1000023,1000028,1000030,1000037,1000043,1000045,1000046,1000051]) zaz (by kernel_rfl) (by kernel_rfl) ?_|refine zaj.i hfb fun _=>?_|refine zaj.i hac fun _=>?_|refine zaj.i hfp fun _=>?_|refine zaj.i hrec fun _=>?_|refine zae (id:=43) hm kT.out 9000 (lsw [181,184,206,209,247,253,294,307] [1000004,1000017,1000023,1000028,1000030,1000037,1000043,1000045,1000046,1000051]) zcJ (by kernel_rfl) (by kernel_rfl) ?_|refine zae (id:=45) hm kT.out 9000 (lsw [181,184,206,209,247,253,294,307] [1000004,1000017,1000023,1000028,1000030,1000037,1000043,1000045,1000046,1000051]) zls (by kernel_rfl) (by kernel_rfl) ?_|refine rf fun _=>?_|refine zaj.i (by simp only[List.length_map,List.length_take,List.length_append,List.length_cons,List.length_nil];omega) fun _=>?_|refine And.intro ?_ ?_|exact True.intro|refine rq fun _=>?_|simp only[go_sem,kk,hs0,hpk,h3,h1',hI,hB,zcJ,zls,hfn,h00,hge1,hge2,hfl,hf,zaz,List.map_append,List.map_cons,List.map_nil,zcg,Tryz.f9,zam,zab,zad,zaa,List.nil_append,zcg])
  all_goals first|done|rfl|omega
set_option maxHeartbeats 16000000 in
theorem zEb {n:Nat}(hT:zap Tryz.prog GA (zcg n)){l:List Abs.zac}{p:Prf}(hpn:p.size=n)(hpre:clP l p)(hfi:inL l p.form=true)(kk:p.kind=5):zaA Tryz.prog GA 9 [.fz (enc l),.fz (enc p)] (hpL []) 0 (fun d _ _=>D.val d=some (.fz (enc (zbr p l)))):=by
 obtain⟨hbr,hsz⟩:=hpre
 have hlen:l.length≤1000000:=by omega
 have kT:=Kp.mk hT
 have kb:=Kp.mk hbr
 clear hT hbr
 have ec:zbr p l=ziq p.kind p.form p.other p.name (p.subs.map zbr) l:=zcC p l
 unfold ziq at ec
 have hfo:=zey hfi
 rw[if_neg (by simp[hfi])]at ec
 obtain⟨fi,hfn⟩:∃n:Nat,p.form=(n:Int):=⟨p.form.toNat,by omega⟩
 have hfl:fi<l.length:=by omega
 obtain⟨f,hf⟩:∃f,l[fi]=f:=⟨_,rfl⟩
 have hfB:BF f:=kb.out f (by rw[←hf];exact List.getElem_mem hfl)
 have hfb:brF f:=hfB.o.b
 have haf:atL l p.form=f:=by unfold atL;rw[hfn,Int.toNat_natCast,List.getD_eq_getElem?_getD,List.getElem?_eq_getElem hfl,hf];rfl
 rw[haf]at ec
 have h00:((fi:Int)<0)=False:=eq_false (by omega)
 have hge1:((l.length:Int)≤fi)=False:=eq_false (by omega)
 have hge2:(l.length≤fi)=False:=eq_false (by omega)
 rw[if_neg (by omega),if_neg (by omega),if_neg (by omega),if_neg (by omega),if_pos kk]at ec
 by_cases hn:p.subs.length=1
 rotate_left
 ·have e:zbr p l=false:=by rw[ec,List.length_map,decide_eq_false hn];simp
  have hn':((p.subs.length:Int)=1)=False:=eq_false (by omega)
  rw[e]
  refine zah (N:=313) hm kT.out 9000 (lsw [181,184,206,209,247,253,294,307] [1000004,1000017,1000023,1000028,1000030,1000037,1000043,1000045,1000046,1000051]) ok9 Tryz.func9 rfl rfl (by simp) (by kernel_rfl) ?_
  repeat'(first|refine zae (id:=4) hm kT.out 9000 (lsw [181,184,206,209,247,253,294,307] [1000004,1000017,1000023,1000028,1000030,1000037,1000043,1000045,1000046,1000051]) zaz (by kernel_rfl) (by kernel_rfl) ?_|refine And.intro ?_ ?_|exact True.intro|refine rq fun _=>?_|simp only[go_sem,kk,hn',hfn,h00,hge1,hge2,hfl,hf,zaz,Tryz.f9,zam,zab,zad,zaa,List.nil_append,zcg])
 obtain⟨s0,hs0⟩:∃s,p.subs=[s]:=by
  match h:p.subs,hn with
  |[s],_=>exact⟨s,rfl⟩
 have hs0s:=Prf.size_sub (f:=p) (g:=s0) (by rw[hs0];simp)
 have hst:zaY f=(zag f).1:=rfl
 obtain⟨pk,hpk⟩:∃k,zaY f=k:=⟨_,rfl⟩
 rw[hpk]at hst
 rw[←hst]at ec
 have hac:(∀f∈l,acP f)∧l.length≤100000:=⟨fun f hf=>zx3 (kb.out f hf).o,by omega⟩
 have hk1:((pk:Int)=5-1)=(pk=4):=rfl
 cases h3:zas p.name with
 |false=>
  have e:zbr p l=false:=by rw[ec,h3];simp
  rw[e]
  refine zah (N:=313) hm kT.out 9000 (lsw [181,184,206,209,247,253,294,307] [1000004,1000017,1000023,1000028,1000030,1000037,1000043,1000045,1000046,1000051]) ok9 Tryz.func9 rfl rfl (by simp) (by kernel_rfl) ?_
  repeat'(first|refine zae (id:=4) hm kT.out 9000 (lsw [181,184,206,209,247,253,294,307] [1000004,1000017,1000023,1000028,1000030,1000037,1000043,1000045,1000046,1000051]) zaz (by kernel_rfl) (by kernel_rfl) ?_|refine zaj.i hfb fun _=>?_|refine zaj.i hac fun _=>?_|refine zae (id:=43) hm kT.out 9000 (lsw [181,184,206,209,247,253,294,307] [1000004,1000017,1000023,1000028,1000030,1000037,1000043,1000045,1000046,1000051]) zcJ (by kernel_rfl) (by kernel_rfl) ?_|refine And.intro ?_ ?_|exact True.intro|refine rq fun _=>?_|simp only[go_sem,kk,hs0,hpk,h3,zcJ,hfn,h00,hge1,hge2,hfl,hf,zaz,Tryz.f9,zam,zab,zad,zaa,List.nil_append,zcg])
 |true=>
  by_cases h1:pk=4
  rotate_left
  ·have e:zbr p l=false:=by rw[ec,decide_eq_false h1];rfl
   have h1':((pk:Int)=5-1)=False:=eq_false h1
   rw[e]
   refine zah (N:=313) hm kT.out 9000 (lsw [181,184,206,209,247,253,294,307] [1000004,1000017,1000023,1000028,1000030,1000037,1000043,1000045,1000046,1000051]) ok9 Tryz.func9 rfl rfl (by simp) (by kernel_rfl) ?_
   repeat'(first|refine zae (id:=4) hm kT.out 9000 (lsw [181,184,206,209,247,253,294,307] [1000004,1000017,1000023,1000028,1000030,1000037,1000043,1000045,1000046,1000051]) zaz (by kernel_rfl) (by kernel_rfl) ?_|refine zaj.i hfb fun _=>?_|refine zaj.i hac fun _=>?_|refine zae (id:=43) hm kT.out 9000 (lsw [181,184,206,209,247,253,294,307] [1000004,1000017,1000023,1000028,1000030,1000037,1000043,1000045,1000046,1000051]) zcJ (by kernel_rfl) (by kernel_rfl) ?_|refine And.intro ?_ ?_|exact True.intro|refine rq fun _=>?_|simp only[go_sem,kk,hs0,hpk,h3,h1',zcJ,hfn,h00,hge1,hge2,hfl,hf,zaz,Tryz.f9,zam,zab,zad,zaa,List.nil_append,zcg])
  have h1':((pk:Int)=5-1)=True:=eq_true h1
  cases h4:zxu l p.name with
  |true=>
   have e:zbr p l=false:=by rw[ec,h4];simp
   have h4':(p.name∈acM l)=True:=eq_true (of_decide_eq_true (by rw[←zty];exact h4))
   rw[e]
   refine zah (N:=313) hm kT.out 9000 (lsw [181,184,206,209,247,253,294,307] [1000004,1000017,1000023,1000028,1000030,1000037,1000043,1000045,1000046,1000051]) ok9 Tryz.func9 rfl rfl (by simp) (by kernel_rfl) ?_
   repeat'(first|refine zae (id:=4) hm kT.out 9000 (lsw [181,184,206,209,247,253,294,307] [1000004,1000017,1000023,1000028,1000030,1000037,1000043,1000045,1000046,1000051]) zaz (by kernel_rfl) (by kernel_rfl) ?_|refine zaj.i hfb fun _=>?_|refine zaj.i hac fun _=>?_|refine zae (id:=43) hm kT.out 9000 (lsw [181,184,206,209,247,253,294,307] [1000004,1000017,1000023,1000028,1000030,1000037,1000043,1000045,1000046,1000051]) zcJ (by kernel_rfl) (by kernel_rfl) ?_|refine And.intro ?_ ?_|exact True.intro|refine rq fun _=>?_|simp only[go_sem,kk,hs0,hpk,h3,h1',h4',zcJ,hfn,h00,hge1,hge2,hfl,hf,zaz,Tryz.f9,zam,zab,zad,zaa,List.nil_append,zcg])
  |false=>
   have h4':(p.name∈acM l)=False:=eq_false (of_decide_eq_false (by rw[←zty];exact h4))
   have hfp:zmu f p.name:=⟨zji hfB,by omega,h3⟩
   have hib:=zs3 hfB (nm:=p.name) (by omega) h3
   have e:zbr p l=zbr s0 (l++[zjP f p.name]):=by rw[ec,hs0,h3,h4];simp[h1,zjP]
   obtain⟨I,hI⟩:∃I,zjP f p.name=I:=⟨_,rfl⟩
   rw[hI]at hib e
   have hrec:s0.size<n∧clP (l++[I]) s0:=⟨by omega,fun x hx=>by
      rcases List.mem_append.1 hx with hx|hx
      ·exact kb.out x hx
      ·rw[List.mem_singleton.1 hx];exact hib,by rw[List.length_append,List.length_singleton];omega⟩
   obtain⟨B,hB⟩:∃B,zbr s0 (l++[I])=B:=⟨_,rfl⟩
   rw[e,hB]
   clear e ec hib
   refine zah (N:=313) hm kT.out 9000 (lsw [181,184,206,209,247,253,294,307] [1000004,1000017,1000023,1000028,1000030,1000037,1000043,1000045,1000046,1000051]) ok9 Tryz.func9 rfl rfl (by simp) (by kernel_rfl) ?_
   repeat'(first|(refine zaL (zaM (id:=(9003,0)) (t:=3) (b:=true) (ys:=[.i .i64 p.kind,.i .i64 p.form,.i .i64 p.other,.s p.name.l,.sl (p.subs.map enc)]) ?_ ?_) ?_;(focus (simp only[go_sem,kk,hs0,hfn];done));(focus (simp only[go_sem];done)))|(refine zaL (zaM (id:=(9005,1)) (t:=5) (b:=true) (ys:=[.i .i64 f.kind,.s f.name.l,.sl (f.words.map enc),.sl (f.subs.map enc)]) ?_ ?_) ?_;(focus (simp only[go_sem,kk,hs0,hfn];done));(focus (simp only[go_sem];done)))|refine zae (id:=4) hm kT.out 9000 (lsw [181,184,206,209,247,253,294,307] [1000004,1000017,1000023,1000028,1000030,1000037,1000043,1000045,1000046,1000051]) zaz (by kernel_rfl) (by kernel_rfl) ?_|refine zaj.i hfb fun _=>?_|refine zaj.i hac fun _=>?_|refine zaj.i hfp fun _=>?_|refine zaj.i hrec fun _=>?_|refine zae (id:=43) hm kT.out 9000 (lsw [181,184,206,209,247,253,294,307] [1000004,1000017,1000023,1000028,1000030,1000037,1000043,1000045,1000046,1000051]) zcJ (by kernel_rfl) (by kernel_rfl) ?_|refine zae (id:=45) hm kT.out 9000 (lsw [181,184,206,209,247,253,294,307] [1000004,1000017,1000023,1000028,1000030,1000037,1000043,1000045,1000046,1000051]) zls (by kernel_rfl) (by kernel_rfl) ?_|refine rf fun _=>?_|refine zaj.i (by simp only[List.length_map,List.length_take,List.length_append,List.length_cons,List.length_nil];omega) fun _=>?_|refine And.intro ?_ ?_|exact True.intro|refine rq fun _=>?_|simp only[go_sem,kk,hs0,hpk,h3,h1',h4',hI,hB,zcJ,zls,hfn,h00,hge1,hge2,hfl,hf,zaz,List.map_append,List.map_cons,List.map_nil,zcg,Tryz.f9,zam,zab,zad,zaa,List.nil_append,zcg])
   all_goals first|done|rfl|omega
end Go.Proofs.YtdlioodgfopmfaaGreatDoor
namespace Go.Proofs.YtdlioodgfopmfaaGreatDoor
open Go Go.Abs Go.Proofs
set_option maxHeartbeats 16000000 in
theorem zEc {n:Nat}(hT:zap Tryz.prog GA (zcg n)){l:List Abs.zac}{p:Prf}(hpn:p.size=n)(hpre:clP l p)(hfi:inL l p.form=true)(kk:p.kind=6):zaA Tryz.prog GA 9 [.fz (enc l),.fz (enc p)] (hpL []) 0 (fun d _ _=>D.val d=some (.fz (enc (zbr p l)))):=by
 obtain⟨hbr,hsz⟩:=hpre
 have hlen:l.length≤1000000:=by omega
 have kT:=Kp.mk hT
 have kb:=Kp.mk hbr
 clear hT hbr
 have ec:zbr p l=ziq p.kind p.form p.other p.name (p.subs.map zbr) l:=zcC p l
 unfold ziq at ec
 have hfo:=zey hfi
 rw[if_neg (by simp[hfi])]at ec
 obtain⟨fi,hfn⟩:∃n:Nat,p.form=(n:Int):=⟨p.form.toNat,by omega⟩
 have hfl:fi<l.length:=by omega
 obtain⟨f,hf⟩:∃f,l[fi]=f:=⟨_,rfl⟩
 have hfB:BF f:=kb.out f (by rw[←hf];exact List.getElem_mem hfl)
 have hfb:brF f:=hfB.o.b
 have haf:atL l p.form=f:=by unfold atL;rw[hfn,Int.toNat_natCast,List.getD_eq_getElem?_getD,List.getElem?_eq_getElem hfl,hf];rfl
 rw[haf]at ec
 have h00:((fi:Int)<0)=False:=eq_false (by omega)
 have hge1:((l.length:Int)≤fi)=False:=eq_false (by omega)
 have hge2:(l.length≤fi)=False:=eq_false (by omega)
 rw[if_neg (by omega),if_neg (by omega),if_neg (by omega),if_neg (by omega),if_neg (by omega),if_pos kk]at ec
 by_cases hn:p.subs.length=1
 rotate_left
 ·have e:zbr p l=false:=by rw[ec,List.length_map,decide_eq_false hn];simp
  have hn':((p.subs.length:Int)=1)=False:=eq_false (by omega)
  rw[e]
  refine zah (N:=313) hm kT.out 9000 (lsw [181,184,206,209,247,253,294,307] [1000004,1000017,1000023,1000028,1000030,1000037,1000043,1000045,1000046,1000051]) ok9 Tryz.func9 rfl rfl (by simp) (by kernel_rfl) ?_
  repeat'(first|refine zae (id:=4) hm kT.out 9000 (lsw [181,184,206,209,247,253,294,307] [1000004,1000017,1000023,1000028,1000030,1000037,1000043,1000045,1000046,1000051]) zaz (by kernel_rfl) (by kernel_rfl) ?_|refine And.intro ?_ ?_|exact True.intro|refine rq fun _=>?_|simp only[go_sem,kk,hn',hfn,h00,hge1,hge2,hfl,hf,zaz,Tryz.f9,zam,zab,zad,zaa,List.nil_append,zcg])
 obtain⟨s0,hs0⟩:∃s,p.subs=[s]:=by
  match h:p.subs,hn with
  |[s],_=>exact⟨s,rfl⟩
 have hs0s:=Prf.size_sub (f:=p) (g:=s0) (by rw[hs0];simp)
 cases hoi:inL l p.other with
 |false=>
  have hoo:=zkU hoi
  have e:zbr p l=false:=by rw[ec,hoi];simp
  rw[e]
  by_cases h1:p.other<0
  ·have h1':(p.other<0)=True:=eq_true h1
   refine zah (N:=313) hm kT.out 9000 (lsw [181,184,206,209,247,253,294,307] [1000004,1000017,1000023,1000028,1000030,1000037,1000043,1000045,1000046,1000051]) ok9 Tryz.func9 rfl rfl (by simp) (by kernel_rfl) ?_
   repeat'(first|refine zae (id:=4) hm kT.out 9000 (lsw [181,184,206,209,247,253,294,307] [1000004,1000017,1000023,1000028,1000030,1000037,1000043,1000045,1000046,1000051]) zaz (by kernel_rfl) (by kernel_rfl) ?_|refine And.intro ?_ ?_|exact True.intro|refine rq fun _=>?_|simp only[go_sem,kk,hs0,h1',hfn,h00,hge1,hge2,hfl,hf,zaz,Tryz.f9,zam,zab,zad,zaa,List.nil_append,zcg])
  ·have h1':(p.other<0)=False:=eq_false h1
   have h2':((l.length:Int)≤p.other)=True:=eq_true (by omega)
   refine zah (N:=313) hm kT.out 9000 (lsw [181,184,206,209,247,253,294,307] [1000004,1000017,1000023,1000028,1000030,1000037,1000043,1000045,1000046,1000051]) ok9 Tryz.func9 rfl rfl (by simp) (by kernel_rfl) ?_
   repeat'(first|refine zae (id:=4) hm kT.out 9000 (lsw [181,184,206,209,247,253,294,307] [1000004,1000017,1000023,1000028,1000030,1000037,1000043,1000045,1000046,1000051]) zaz (by kernel_rfl) (by kernel_rfl) ?_|refine And.intro ?_ ?_|exact True.intro|refine rq fun _=>?_|simp only[go_sem,kk,hs0,h1',h2',hfn,h00,hge1,hge2,hfl,hf,zaz,Tryz.f9,zam,zab,zad,zaa,List.nil_append,zcg])
 |true=>
  have hoo:=zey hoi
  obtain⟨oi,hon⟩:∃n:Nat,p.other=(n:Int):=⟨p.other.toNat,by omega⟩
  have hol:oi<l.length:=by omega
  obtain⟨g,hg⟩:∃g,l[oi]=g:=⟨_,rfl⟩
  have hgB:BF g:=kb.out g (by rw[←hg];exact List.getElem_mem hol)
  have hag:atL l p.other=g:=by unfold atL;rw[hon,Int.toNat_natCast,List.getD_eq_getElem?_getD,List.getElem?_eq_getElem hol,hg];rfl
  have o00:((oi:Int)<0)=False:=eq_false (by omega)
  have oge1:((l.length:Int)≤oi)=False:=eq_false (by omega)
  have oge2:(l.length≤oi)=False:=eq_false (by omega)
  rw[hag,hoi]at ec
  by_cases h1:f.kind=3
  rotate_left
  ·have e:zbr p l=false:=by rw[ec,decide_eq_false h1];rfl
   rw[e]
   refine zah (N:=313) hm kT.out 9000 (lsw [181,184,206,209,247,253,294,307] [1000004,1000017,1000023,1000028,1000030,1000037,1000043,1000045,1000046,1000051]) ok9 Tryz.func9 rfl rfl (by simp) (by kernel_rfl) ?_
   repeat'(first|refine zae (id:=4) hm kT.out 9000 (lsw [181,184,206,209,247,253,294,307] [1000004,1000017,1000023,1000028,1000030,1000037,1000043,1000045,1000046,1000051]) zaz (by kernel_rfl) (by kernel_rfl) ?_|refine zae (id:=46) hm kT.out 9000 (lsw [181,184,206,209,247,253,294,307] [1000004,1000017,1000023,1000028,1000030,1000037,1000043,1000045,1000046,1000051]) zd1 (by kernel_rfl) (by kernel_rfl) ?_|refine And.intro ?_ ?_|exact True.intro|refine rq fun _=>?_|simp only[go_sem,kk,hs0,h1,zd1,hfn,h00,hge1,hge2,hfl,hf,zaz,hon,o00,oge1,oge2,hol,hg,Tryz.f9,zam,zab,zad,zaa,List.nil_append,zcg])
  obtain⟨a,b,hab⟩:∃a b,f.words=[a,b]:=by
   have h2:=(zbf.1 hfb.v).2.2.2.1 h1
   match h:f.words,h2 with
   |[a,b],_=>exact⟨a,b,rfl⟩
  have hnm:zas a=true∧zas b=true:=by
   have hw:=hfB.o.aw
   cases f with
   |mk k nm ws s=>
    rw[zbQ]at hw
    rw[zcb]at hab
    subst hab
    exact⟨hw.1 a (by simp),hw.1 b (by simp)⟩
  by_cases h3:p.name∈f.words
  rotate_left
  ·have e:zbr p l=false:=by rw[ec,decide_eq_false h3];simp
   rw[hab]at h3
   simp only[List.mem_cons,List.not_mem_nil,or_false,not_or]at h3
   have hna:(p.name.l=a.l)=False:=eq_false fun h=>h3.1 (zfb h)
   have hnb:(p.name.l=b.l)=False:=eq_false fun h=>h3.2 (zfb h)
   rw[e]
   refine zah (N:=313) hm kT.out 9000 (lsw [181,184,206,209,247,253,294,307] [1000004,1000017,1000023,1000028,1000030,1000037,1000043,1000045,1000046,1000051]) ok9 Tryz.func9 rfl rfl (by simp) (by kernel_rfl) ?_
   repeat'(first|refine zae (id:=4) hm kT.out 9000 (lsw [181,184,206,209,247,253,294,307] [1000004,1000017,1000023,1000028,1000030,1000037,1000043,1000045,1000046,1000051]) zaz (by kernel_rfl) (by kernel_rfl) ?_|refine zae (id:=46) hm kT.out 9000 (lsw [181,184,206,209,247,253,294,307] [1000004,1000017,1000023,1000028,1000030,1000037,1000043,1000045,1000046,1000051]) zd1 (by kernel_rfl) (by kernel_rfl) ?_|refine And.intro ?_ ?_|exact True.intro|refine rq fun _=>?_|simp only[go_sem,kk,hs0,h1,hab,hna,hnb,zd1,hfn,h00,hge1,hge2,hfl,hf,zaz,hon,o00,oge1,oge2,hol,hg,Tryz.f9,zam,zab,zad,zaa,List.nil_append,zcg])
  obtain⟨T,hT0⟩:∃T,zuc f p.name=T:=⟨_,rfl⟩
  have e:zbr p l=zbr s0 (l++[zau g [⟨p.name,T⟩]]):=by rw[ec,hs0,hT0];simp[h1,h3]
  rw[hab]at h3
  unfold zuc at hT0
  rw[hab]at hT0
  simp only[List.getD_cons_zero,List.getD_cons_succ]at hT0
  have hTn:zas T=true:=by
   rw[←hT0]
   split
   ·exact hnm.2
   ·exact hnm.1
  have hgB':BF (zau g [⟨p.name,T⟩]):=hgB.o.can (by simp) fun b hb=>by rw[List.mem_singleton.1 hb];exact hTn
  have e2:zje g [⟨p.name,T⟩]=zau g [⟨p.name,T⟩]:=(zgO hgB.o.clean (by simp) (fun b hb=>by rw[List.mem_singleton.1 hb];exact zgp hTn)).symm
  have zW:List.zipWith Abs.zaR.mk [p.name] [T]=[⟨p.name,T⟩]:=rfl
  have hw:zpV g [p.name] [T]:=⟨hgB.o.b.ft,by have:=hgB.o.b.s;omega,rfl,by simp⟩
  obtain⟨I,hI⟩:∃I,zau g [⟨p.name,T⟩]=I:=⟨_,rfl⟩
  rw[hI]at hgB' e e2
  have hrec:s0.size<n∧clP (l++[I]) s0:=⟨by omega,fun x hx=>by
   rcases List.mem_append.1 hx with hx|hx
   ·exact kb.out x hx
   ·rw[List.mem_singleton.1 hx];exact hgB',by rw[List.length_append,List.length_singleton];omega⟩
  obtain⟨B,hB⟩:∃B,zbr s0 (l++[I])=B:=⟨_,rfl⟩
  rw[e,hB]
  clear e ec hgB' hI
  by_cases hna:a=p.name
  ·have hn1:(p.name.l=a.l)=True:=eq_true (by rw[hna])
   rw[if_pos hna]at hT0
   subst hT0
   by_cases hbn:b=p.name
   ·have hn2:(p.name.l=b.l)=True:=eq_true (by rw[hbn])
    have hbaE:b=a:=hbn.trans hna.symm
    subst hbaE
    refine zah (N:=313) hm kT.out 9000 (lsw [181,184,206,209,247,253,294,307] [1000004,1000017,1000023,1000028,1000030,1000037,1000043,1000045,1000046,1000051]) ok9 Tryz.func9 rfl rfl (by simp) (by kernel_rfl) ?_
    repeat'(first|(refine zaL (zaM (id:=(9003,0)) (t:=3) (b:=true) (ys:=[.i .i64 p.kind,.i .i64 p.form,.i .i64 p.other,.s p.name.l,.sl (p.subs.map enc)]) ?_ ?_) ?_;(focus (simp only[go_sem,kk,hs0,hfn,hon,h1,hab];done));(focus (simp only[go_sem];done)))|(refine zaL (zaM (id:=(9005,1)) (t:=5) (b:=true) (ys:=[.i .i64 f.kind,.s f.name.l,.sl (f.words.map enc),.sl (f.subs.map enc)]) ?_ ?_) ?_;(focus (simp only[go_sem,kk,hs0,hfn,hon,h1,hab];done));(focus (simp only[go_sem];done)))|refine zae (id:=4) hm kT.out 9000 (lsw [181,184,206,209,247,253,294,307] [1000004,1000017,1000023,1000028,1000030,1000037,1000043,1000045,1000046,1000051]) zaz (by kernel_rfl) (by kernel_rfl) ?_|refine zae (id:=46) hm kT.out 9000 (lsw [181,184,206,209,247,253,294,307] [1000004,1000017,1000023,1000028,1000030,1000037,1000043,1000045,1000046,1000051]) zd1 (by kernel_rfl) (by kernel_rfl) ?_|refine zae (id:=51) hm kT.out 9000 (lsw [181,184,206,209,247,253,294,307] [1000004,1000017,1000023,1000028,1000030,1000037,1000043,1000045,1000046,1000051]) zhe (by kernel_rfl) (by kernel_rfl) ?_|refine zaj.i hw fun _=>?_|refine zaj.i ⟨rfl,rfl,hw⟩ fun _=>?_|refine zaj.i ⟨rfl,hw⟩ fun _=>?_|refine zaj.i hrec fun _=>?_|refine rf fun _=>?_|refine zaj.i (by simp only[List.length_map,List.length_take,List.length_append,List.length_cons,List.length_nil];omega) fun _=>?_|refine And.intro ?_ ?_|exact True.intro|refine rq fun _=>?_|simp only[go_sem,kk,hs0,h1,hab,hn1,hn2,zW,e2,hB,zev,zfm,zd1,zhe,hfn,h00,hge1,hge2,hfl,hf,zaz,hon,o00,oge1,oge2,hol,hg,List.map_append,List.map_cons,List.map_nil,zcg,Tryz.f9,zam,zab,zad,zaa,List.nil_append,zcg])
    all_goals first|done|rfl|omega
   ·have hn2:(p.name.l=b.l)=False:=eq_false fun h=>hbn (zfb h).symm
    refine zah (N:=313) hm kT.out 9000 (lsw [181,184,206,209,247,253,294,307] [1000004,1000017,1000023,1000028,1000030,1000037,1000043,1000045,1000046,1000051]) ok9 Tryz.func9 rfl rfl (by simp) (by kernel_rfl) ?_
    repeat'(first|(refine zaL (zaM (id:=(9003,0)) (t:=3) (b:=true) (ys:=[.i .i64 p.kind,.i .i64 p.form,.i .i64 p.other,.s p.name.l,.sl (p.subs.map enc)]) ?_ ?_) ?_;(focus (simp only[go_sem,kk,hs0,hfn,hon,h1,hab];done));(focus (simp only[go_sem];done)))|(refine zaL (zaM (id:=(9005,1)) (t:=5) (b:=true) (ys:=[.i .i64 f.kind,.s f.name.l,.sl (f.words.map enc),.sl (f.subs.map enc)]) ?_ ?_) ?_;(focus (simp only[go_sem,kk,hs0,hfn,hon,h1,hab];done));(focus (simp only[go_sem];done)))|refine zae (id:=4) hm kT.out 9000 (lsw [181,184,206,209,247,253,294,307] [1000004,1000017,1000023,1000028,1000030,1000037,1000043,1000045,1000046,1000051]) zaz (by kernel_rfl) (by kernel_rfl) ?_|refine zae (id:=46) hm kT.out 9000 (lsw [181,184,206,209,247,253,294,307] [1000004,1000017,1000023,1000028,1000030,1000037,1000043,1000045,1000046,1000051]) zd1 (by kernel_rfl) (by kernel_rfl) ?_|refine zae (id:=51) hm kT.out 9000 (lsw [181,184,206,209,247,253,294,307] [1000004,1000017,1000023,1000028,1000030,1000037,1000043,1000045,1000046,1000051]) zhe (by kernel_rfl) (by kernel_rfl) ?_|refine zaj.i hw fun _=>?_|refine zaj.i ⟨rfl,rfl,hw⟩ fun _=>?_|refine zaj.i ⟨rfl,hw⟩ fun _=>?_|refine zaj.i hrec fun _=>?_|refine rf fun _=>?_|refine zaj.i (by simp only[List.length_map,List.length_take,List.length_append,List.length_cons,List.length_nil];omega) fun _=>?_|refine And.intro ?_ ?_|exact True.intro|refine rq fun _=>?_|simp only[go_sem,kk,hs0,h1,hab,hn1,hn2,zW,e2,hB,zev,zfm,zd1,zhe,hfn,h00,hge1,hge2,hfl,hf,zaz,hon,o00,oge1,oge2,hol,hg,List.map_append,List.map_cons,List.map_nil,zcg,Tryz.f9,zam,zab,zad,zaa,List.nil_append,zcg])
    all_goals first|done|rfl|omega
  ·have hn1:(p.name.l=a.l)=False:=eq_false fun h=>hna (zfb h).symm
   rw[if_neg hna]at hT0
   subst hT0
   have hbn:b=p.name:=by
    simp only[List.mem_cons,List.not_mem_nil,or_false]at h3
    rcases h3 with h3|h3
    ·exact absurd h3.symm hna
    ·exact h3.symm
   have hn2:(p.name.l=b.l)=True:=eq_true (by rw[hbn])
   refine zah (N:=313) hm kT.out 9000 (lsw [181,184,206,209,247,253,294,307] [1000004,1000017,1000023,1000028,1000030,1000037,1000043,1000045,1000046,1000051]) ok9 Tryz.func9 rfl rfl (by simp) (by kernel_rfl) ?_
   repeat'(first|(refine zaL (zaM (id:=(9003,0)) (t:=3) (b:=true) (ys:=[.i .i64 p.kind,.i .i64 p.form,.i .i64 p.other,.s p.name.l,.sl (p.subs.map enc)]) ?_ ?_) ?_;(focus (simp only[go_sem,kk,hs0,hfn,hon,h1,hab];done));(focus (simp only[go_sem];done)))|(refine zaL (zaM (id:=(9005,1)) (t:=5) (b:=true) (ys:=[.i .i64 f.kind,.s f.name.l,.sl (f.words.map enc),.sl (f.subs.map enc)]) ?_ ?_) ?_;(focus (simp only[go_sem,kk,hs0,hfn,hon,h1,hab];done));(focus (simp only[go_sem];done)))|refine zae (id:=4) hm kT.out 9000 (lsw [181,184,206,209,247,253,294,307] [1000004,1000017,1000023,1000028,1000030,1000037,1000043,1000045,1000046,1000051]) zaz (by kernel_rfl) (by kernel_rfl) ?_|refine zae (id:=46) hm kT.out 9000 (lsw [181,184,206,209,247,253,294,307] [1000004,1000017,1000023,1000028,1000030,1000037,1000043,1000045,1000046,1000051]) zd1 (by kernel_rfl) (by kernel_rfl) ?_|refine zae (id:=51) hm kT.out 9000 (lsw [181,184,206,209,247,253,294,307] [1000004,1000017,1000023,1000028,1000030,1000037,1000043,1000045,1000046,1000051]) zhe (by kernel_rfl) (by kernel_rfl) ?_|refine zaj.i hw fun _=>?_|refine zaj.i ⟨rfl,rfl,hw⟩ fun _=>?_|refine zaj.i ⟨rfl,hw⟩ fun _=>?_|refine zaj.i hrec fun _=>?_|refine rf fun _=>?_|refine zaj.i (by simp only[List.length_map,List.length_take,List.length_append,List.length_cons,List.length_nil];omega) fun _=>?_|refine And.intro ?_ ?_|exact True.intro|refine rq fun _=>?_|simp only[go_sem,kk,hs0,h1,hab,hn1,hn2,zW,e2,hB,zev,zfm,zd1,zhe,hfn,h00,hge1,hge2,hfl,hf,zaz,hon,o00,oge1,oge2,hol,hg,List.map_append,List.map_cons,List.map_nil,zcg,Tryz.f9,zam,zab,zad,zaa,List.nil_append,zcg])
   all_goals first|done|rfl|omega
end Go.Proofs.YtdlioodgfopmfaaGreatDoor
namespace Go.Proofs.YtdlioodgfopmfaaGreatDoor
open Go Go.Abs Go.Proofs
def O14:Tbl:=O13.add 9 (sp2 (fun l p=>zbr p l) clP)
attribute [go_sem] O14
theorem zIi:zap Tryz.prog GA O14:=by
 refine zwC Prf.size ok9 zc7 fun n hT l p hpn hpre _ _=>?_
 have hT:zap Tryz.prog GA (zcg n):=hT
 cases hfi:inL l p.form with
 |false=>exact zx7 hT hpre hfi
 |true=>
  by_cases k1:p.kind=1
  ·exact zD7 hT hpn hpre hfi k1
  by_cases k2:p.kind=2
  ·exact zD8 hT hpn hpre hfi k2
  by_cases k3:p.kind=3
  ·exact zD9 hT hpn hpre hfi k3
  by_cases k4:p.kind=4
  ·exact zEa hT hpn hpre hfi k4
  by_cases k5:p.kind=5
  ·exact zEb hT hpn hpre hfi k5
  by_cases k6:p.kind=6
  ·exact zEc hT hpn hpre hfi k6
  exact zvl hT hpn hpre hfi (by omega)
def O15:Tbl:=O14
attribute [go_sem] O15
end Go.Proofs.YtdlioodgfopmfaaGreatDoor
namespace Go.Proofs.YtdlioodgfopmfaaGreatDoor
open Go Go.Abs Go.Proofs
def exR (r:Res):Prop:=r.ok=true→r.lim=false
theorem zr7 {rec:Brn→Int→Res}{b1:Brn}{i:Nat}:∀(l:List Abs.zac) (subs:List Prf) (a:Int),exR (zeL rec b1 i l subs a)
 |[],_,_=>fun _=>rfl
 |x::xs,subs,a=>by
  rw[zeL]
  split
  ·intro h;cases h
  ·split
   ·intro h;cases h
   ·exact zr7 xs _ _
theorem zvO {rec:Brn→Int→Res}(h:∀b a,exR (rec b a))(b:Brn)(a:Int)(i:Nat)(f:Abs.zac):exR (zb5 rec b a i f):=by
 unfold zb5
 split
 ·split
  ·intro h;cases h
  ·exact fun e=>h _ _ e
 ·split
  ·split
   ·intro h;cases h
   ·exact fun e=>h _ _ e
  ·exact zr7 _ _ _
theorem ztA {rec:Brn→Int→Res}(h:∀b a,exR (rec b a))(b:Brn)(a:Int){k:Res}(hk:exR k):∀ws:List Int,exR (zeN rec b a k ws)
 |[]=>hk
 |w::ws=>by
  rw[zeN]
  split
  ·exact zvO h _ _ _ _
  ·exact ztA h b a hk ws
theorem zyv {rec:Brn→Int→Res}(h:∀b a,exR (rec b a)):∀r:GR,exR (zmz rec r)
 | .lim _=>fun e=>by cases e
 | .go s=>by
  unfold exR zmz
  by_cases hs:s.steps=[]
  ·simp only[hs,if_true];intro e;cases e
  ·simp only[hs,if_false];exact fun e=>h _ _ e
theorem zov (uses:Int):∀(n:Nat) (b:Brn) (a:Int),exR (zeQ uses n b a)
 |0,b,a=>fun e=>by rw[zeQ]at e;cases e
 |n+1,b,a=>by
  rw[zeQ]
  unfold zha
  split
  ·exact fun _=>rfl
  ·refine ztA (fun b a=>zov uses n b a) _ _ ?_ _
   unfold zdN
   split
   ·intro e;cases e
   ·exact zyv (fun b a=>zov uses n b a) _
theorem zq4 {ax:List Abs.zac}{g:Abs.zac}{uses:Int}(h:(zbL ax g).2.code=0)(h2:¬(uses<0∨5<uses)):ztD ax g uses=((zcM ax g uses).2.1,(zcM ax g uses).2.2):=by
 rw[ziV h h2]
 have hx:exR (zj1 ax g uses):=zov uses 301 _ 0
 obtain⟨r,hr⟩:∃r,zj1 ax g uses=r:=⟨_,rfl⟩
 unfold ztD
 rw[hr]at hx ⊢
 unfold zcE
 cases ho:r.ok with
 |true=>
  have hl:=hx ho
  simp[hl]
 |false=>
  cases hl:r.lim<;>simp
theorem zwk {ax:List Abs.zac}{g:Abs.zac}{uses:Int}{p:Prf}{e:zeR}(h:zcM ax g uses=(p,false,e)):p=zbK:=by
 unfold zcM at h
 repeat'(split at h)
 all_goals first|(simp only[Prod.mk.injEq]at h;exact h.1.symm)|(simp at h)
theorem zq5 {ax:List Abs.zac}{g:Abs.zac}{uses:Int}{p:Prf}{e:zeR}(h:zcM ax g uses=(p,true,e)):zbr p (zbg ax g)=true∧p.size≤601∧(∀f∈zbg ax g,BF f)∧(zbg ax g).length≤41:=by
 obtain⟨h0,hu,hk,hl,hp,he⟩:=zwl h
 obtain⟨_,hlen,hva,hvg⟩:=zks h0
 obtain⟨h1,h2⟩:=zxB hva hvg hlen hu
 have hc:=ztT (uses:=uses) 301 _ 0 h1 h2 hk
 have had:=(zei (uses:=uses) 301 (zbS zc4 (zbg ax g)) 0 (by decide)).2 hk
 have hl2:(zbS zc4 (zbg ax g)).list=zbg ax g:=by unfold zbS zc4;simp
 rw[hl2]at hc
 have hp2:p=(zeQ uses 301 (zbS zc4 (zbg ax g)) 0).p:=hp
 rw[←hp2]at hc
 obtain⟨c1,c2⟩:=hc
 have hsz:p.size≤601:=by omega
 exact⟨c1,hsz,zik hva hvg,by unfold zbg zhF;simp;omega⟩
def W3:Tbl:=Tbl.or Z7 (Tbl.or O14 W2)
attribute [go_sem] W3
theorem hW3:zap Tryz.prog GA W3:=zoK hZ7 (zoK zIi hW2)
def zd2:Tv:=(.q 0 (.q 1 (.q 2 (.q 3 (.q 4 (.q 5 .leaf))))))
set_option maxHeartbeats 8000000 in
theorem zv7 (hT:zap Tryz.prog GA W3)(ax:List Abs.zac)(g:Abs.zac)(uses:Int)(_:(enc ax).Wf)(_:(enc g).Wf)(_:(enc uses).Wf):zaA Tryz.prog GA 3 [.fz (enc ax),.fz (enc g),.fz (enc uses)] (hpL []) 0 (fun d _ _=>d= .fz (.b true)):=by
 have dO:Str.mk [109,111,114,116,97,108]=zuU:=rfl
 have dK:Str.mk [107,105,109]=zhJ:=rfl
 have eG:zq2 zuU [zhJ]=zgo:=rfl
 have p0:=zyX
 have kk0:=eq_false ztm.2.2
 obtain⟨P2,hP2⟩:∃P2,(zeQ 1 301 zed 0).p=P2:=⟨_,rfl⟩
 rw[hP2]at p0 kk0
 obtain⟨q,hQ⟩:∃q,qfS ax g=q:=⟨_,rfl⟩
 have hbq:(zbL ax g).2=q:=by rw[ztG,hQ]
 by_cases hq:q.code=0
 rotate_left
 ·have hP:zcM ax g uses=(zbK,false,q):=by
   unfold zcM
   rw[hbq,if_pos hq]
  have hq':(q.code=0)=False:=eq_false hq
  refine zah (N:=101) Go.Proofs.YtdlioodgfopmfaaGreatDoor.hm hT 3000 (lst [1000015]) ok3 Tryz.func3 rfl rfl (by simp) (by kernel_rfl) ?_
  repeat'(first|refine zae (id:=15) Go.Proofs.YtdlioodgfopmfaaGreatDoor.hm hT 3000 (lst [1000015]) zd2 (by kernel_rfl) (by kernel_rfl) ?_|refine And.intro ?_ ?_|exact True.intro|refine rq fun _=>?_|refine rf fun _=>?_|simp only[go_sem,hq',Tryz.f3,GA,zad,zab,zam,dO,dK,eG,p0,kk0,hP,hQ,zd2])
  all_goals first|done|rfl|omega
 have hbz:(zbL ax g).2.code=0:=by rw[hbq];exact hq
 obtain⟨hbg,hlen,hva,hvg⟩:=zks hbz
 have hq2:q=⟨0,0⟩:=by rw[←hbq,hbg]
 subst hq2
 clear hq
 by_cases hu:uses<0∨5<uses
 ·have hP:zcM ax g uses=(zbK,false,⟨3, -3⟩):=by
   unfold zcM
   rw[if_neg (by simp[hbz]),if_pos hu]
  by_cases h1:uses<0
  ·have h1':(uses<0)=True:=eq_true h1
   refine zah (N:=101) Go.Proofs.YtdlioodgfopmfaaGreatDoor.hm hT 3000 (lst [1000015]) ok3 Tryz.func3 rfl rfl (by simp) (by kernel_rfl) ?_
   repeat'(first|refine zae (id:=15) Go.Proofs.YtdlioodgfopmfaaGreatDoor.hm hT 3000 (lst [1000015]) zd2 (by kernel_rfl) (by kernel_rfl) ?_|refine And.intro ?_ ?_|exact True.intro|refine rq fun _=>?_|refine rf fun _=>?_|simp only[go_sem,h1',Tryz.f3,GA,zad,zab,zam,dO,dK,eG,p0,kk0,hP,hQ,zd2])
   all_goals first|done|rfl|omega
  ·have h1':(uses<0)=False:=eq_false h1
   have h2':(5<uses)=True:=eq_true (hu.resolve_left h1)
   refine zah (N:=101) Go.Proofs.YtdlioodgfopmfaaGreatDoor.hm hT 3000 (lst [1000015]) ok3 Tryz.func3 rfl rfl (by simp) (by kernel_rfl) ?_
   repeat'(first|refine zae (id:=15) Go.Proofs.YtdlioodgfopmfaaGreatDoor.hm hT 3000 (lst [1000015]) zd2 (by kernel_rfl) (by kernel_rfl) ?_|refine And.intro ?_ ?_|exact True.intro|refine rq fun _=>?_|refine rf fun _=>?_|simp only[go_sem,h1',h2',Tryz.f3,GA,zad,zab,zam,dO,dK,eG,p0,kk0,hP,hQ,zd2])
   all_goals first|done|rfl|omega
 have h1':(uses<0)=False:=eq_false fun h=>hu (Or.inl h)
 have h2':(5<uses)=False:=eq_false fun h=>hu (Or.inr h)
 have hpre:(∀f∈ax,(zaE false f).code=0)∧(zaE false g).code=0∧ax.length≤40:=⟨hva,hvg,hlen⟩
 have hpr:=zq4 hbz hu
 obtain⟨r,hP⟩:∃r,zcM ax g uses=r:=⟨_,rfl⟩
 obtain⟨p,ok,e⟩:=r
 rw[hP]at hpr
 simp only at hpr
 cases ok with
 |false=>
  have hz:=zwk hP
  subst hz
  refine zah (N:=101) Go.Proofs.YtdlioodgfopmfaaGreatDoor.hm hT 3000 (lst [1000015]) ok3 Tryz.func3 rfl rfl (by simp) (by kernel_rfl) ?_
  repeat'(first|refine zae (id:=15) Go.Proofs.YtdlioodgfopmfaaGreatDoor.hm hT 3000 (lst [1000015]) zd2 (by kernel_rfl) (by kernel_rfl) ?_|refine zaj.i hpre fun _=>?_|refine And.intro ?_ ?_|exact True.intro|refine rq fun _=>?_|refine rf fun _=>?_|simp only[go_sem,h1',h2',hpr,zbK,Tryz.f3,GA,zad,zab,zam,dO,dK,eG,p0,kk0,hP,hQ,zd2])
  all_goals first|done|rfl|omega
 |true=>
  obtain⟨c1,c2,c3,c4⟩:=zq5 hP
  have hfp:(∀f∈ax,clB f)∧clB g∧ax.length≤1000:=⟨fun f hf=>⟨(zcm (hva f hf)).b,(zcm (hva f hf)).clean⟩,⟨(zcm hvg).b,(zcm hvg).clean⟩,by omega⟩
  obtain⟨B,hB⟩:∃B,zmn ax g=B:=⟨_,rfl⟩
  have hB2:zbg ax g=B:=hB
  rw[hB2]at c1 c3 c4
  have hcl:clP B p:=⟨c3,by omega⟩
  refine zah (N:=101) Go.Proofs.YtdlioodgfopmfaaGreatDoor.hm hT 3000 (lst [1000015]) ok3 Tryz.func3 rfl rfl (by simp) (by kernel_rfl) ?_
  repeat'(first|refine zae (id:=15) Go.Proofs.YtdlioodgfopmfaaGreatDoor.hm hT 3000 (lst [1000015]) zd2 (by kernel_rfl) (by kernel_rfl) ?_|refine zaj.i hpre fun _=>?_|refine zaj.i hfp fun _=>?_|refine zaj.i hcl fun _=>?_|refine And.intro ?_ ?_|exact True.intro|refine rq fun _=>?_|refine rf fun _=>?_|simp only[go_sem,h1',h2',hpr,hB,c1,Tryz.f3,GA,zad,zab,zam,dO,dK,eG,p0,kk0,hP,hQ,zd2])
  all_goals first|done|rfl|omega
end Go.Proofs.YtdlioodgfopmfaaGreatDoor
