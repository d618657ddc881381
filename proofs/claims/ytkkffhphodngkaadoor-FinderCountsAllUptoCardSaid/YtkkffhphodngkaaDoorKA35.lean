/- Counts of a formula and of its negation add up to all interpretations, and counting does not depend on the order or on a conjunction (FinderCountsAll), for inputs within the bound of the statement's second form; no conditions. -/
import Derived.Test.YtkkffhphodngkaaDoorY10
import Derived.Test.YtkkffhphodngkaaDoorY13
set_option maxRecDepth 100000
set_option linter.unusedSimpArgs false
namespace Go.Proofs.YtkkffhphodngkaaDoor
open Go Go.Abs Go.RowKit Go.WideShapes Go.ChangeShapes Go.ChangeAt
theorem zKD {W:World}(h:laidMet Tryd.prog Rows.finderCountsAllUptoRow.laid W):∀g,GA g≠[]→g<W.heap.size∧∃cs T fr,W.heap[g]?=some (.cells cs T fr)∧cs.size=(GA g).length∧∀j,j<(GA g).length→∃v,cs[j]?=some v∧za3 W (zin W) v ((GA g).getD j .nilf):=
 zjA h (.head _)
theorem zKj (hT:zap Tryd.prog GA I14)(H:Type)(en:TypeId×Value→H)(W:World)(base:Nat)(args:Array Value)(ds gs:List (DataW H))(before:List MemPlace)
  (hval:∀(j:Nat) t v,Tryd.f4.params[j]?=some t→args[j]?=some v→Value.okWide Tryd.prog W .any base t v)
  (hW:DataW.Whole en Tryd.prog Tryd.f4.params.toList Rows.finderCountsAllSpec.vars false W args.toList ds gs before)
  (hglob:zio GA W (zin W))(hbk:Rows.uptoBulkAll ds≤1048576):
  Calls Tryd.prog 4 args W fun e W'=>∃v,e= .returned v∧Rows.finderCountsAllSpec.post en Tryd.prog Tryd.f4 false true false false W args v W':=by
 have hW':=hW
 obtain⟨p,q,hA0,hV,rfl,hfz,hnd⟩:=hW
 have hA:DataW.TrodAll en Tryd.prog W 0 (fun _=>true) true Tryd.f4.params.toList args.toList ds p:=hA0
 rw[Tryd.params4]at hA hval
 obtain⟨v0,vs0,d0,ds0,p0,q0,hargs,rfl,rfl,h0,r0⟩:=trodAll_cons hA
 obtain⟨v1,vs1,d1,ds1,p1,q1,rfl,rfl,rfl,h1,r1⟩:=trodAll_cons r0
 obtain⟨v2,vs2,d2,ds2,p2,q2,rfl,rfl,rfl,h2,r2⟩:=trodAll_cons r1
 obtain⟨rfl,rfl,rfl⟩:=trodAll_nil r2
 obtain rfl:args= #[v0,v1,v2]:=by cases args;simp_all
 obtain⟨rfl,rfl⟩:=trodVars_none hV
 obtain⟨n0,rfl,_⟩:=okWide_struct Tryd.underlying29 (hval 0 29 v0 rfl rfl)
 obtain⟨n1,rfl,_⟩:=okWide_struct Tryd.underlying29 (hval 1 29 v1 rfl rfl)
 obtain⟨n2,rfl,_,_,wf2⟩:=open_int Tryd.underlying3 (hval 2 3 v2 rfl rfl) h2
 have h0k:=h0
 have h1k:=h1
 have h2k:=h2
 obtain⟨fuel0,hf0⟩:=h0
 obtain⟨fuel1,hf1⟩:=h1
 obtain⟨fuel2,hf2⟩:=h2
 clear hA0
 simp only[List.append_nil]at hW'
 have hlt:∀x∈p0++(p1++p2),x.block<W.heap.size:=fun x hx=>by simpa using hW'.lt x (by simpa using hx)
 obtain⟨x0,l0⟩:=((ztJ):RdN (SizeOf.sizeOf d0+1) (fun _ d=>Rows.uptoBulk d) Tryd.prog 29 Abs.zac) hf0 (Nat.lt_succ_self _) (by simp only[Rows.uptoBulkAll]at hbk;show Rows.uptoBulk d0≤1048576;omega)
 have hrep0:za3 W (zin W) (.agg n0) (enc x0):=by have h:=l0.agg;rw[zaG]at h ⊢;exact h
 obtain⟨x1,l1⟩:=((ztJ):RdN (SizeOf.sizeOf d1+1) (fun _ d=>Rows.uptoBulk d) Tryd.prog 29 Abs.zac) hf1 (Nat.lt_succ_self _) (by simp only[Rows.uptoBulkAll]at hbk;show Rows.uptoBulk d1≤1048576;omega)
 have hrep1:za3 W (zin W) (.agg n1) (enc x1):=by have h:=l1.agg;rw[zaG]at h ⊢;exact h
 obtain⟨x2,l2⟩:=((zrz rfl Tryd.underlying3):RdN (SizeOf.sizeOf d2+1) (fun _ d=>Rows.uptoBulk d) Tryd.prog 3 Int) hf2 (Nat.lt_succ_self _) (by simp only[Rows.uptoBulkAll]at hbk;show Rows.uptoBulk d2≤1048576;omega)
 have hrep2:za3 W (zin W) (.int .i64 n2) (enc x2):=l2.one_inv
 have hcall:=zic (vs:=[(.agg n0),(.agg n1),(.int .i64 n2)]) (xs:=[enc x0,enc x1,enc x2]) (W:=W) (zKx hT x0 x1 x2 hrep0.wf hrep1.wf hrep2.wf) hglob rfl (fun j hj=>by
  have:j=0∨j=1∨j=2:=by simp at hj;omega
  rcases this with rfl|rfl|rfl
  ·exact hrep0
  ·exact hrep1
  ·exact hrep2)
 refine hcall.mono fun e W' ⟨he,hs⟩=>?_
 subst he
 have hb:Below W.heap.size W W':=⟨hs.os,hs.tape,hs.output,hs.size,hs.heap⟩
 refine⟨_,rfl,zjO (pa:=p0++(p1++p2)) (pv:=[]) hW' (fun _ _ _=>trodAll_cons_mk (shut_bool Tryd.underlying4 _) trodAll_mk0) (fun sp hsp=>?_) (fun _ _=>rfl) (by simp) hb (ok_one (by kernel_rfl) rfl (okWide_bool_mk Tryd.underlying4 _))⟩
 have hst0:DataW.Trod en Tryd.prog W' 0 sp true 29 (.agg n0) d0 p0:=WideElems.Trod_stays zra (by kernel_rfl) (of_decide_eq_true (by kernel_rfl)) h0k (fun x hx=>hb.same (hlt x (by simp[hx]))) (fun x hx=>hsp x (by simp[hx]))
 have hst1:DataW.Trod en Tryd.prog W' 0 sp true 29 (.agg n1) d1 p1:=WideElems.Trod_stays zra (by kernel_rfl) (of_decide_eq_true (by kernel_rfl)) h1k (fun x hx=>hb.same (hlt x (by simp[hx]))) (fun x hx=>hsp x (by simp[hx]))
 have hst2:DataW.Trod en Tryd.prog W' 0 sp true 3 (.int .i64 n2) d2 p2:=WideElems.Trod_stays zra (by kernel_rfl) (of_decide_eq_true (by kernel_rfl)) h2k (fun x hx=>hb.same (hlt x (by simp[hx]))) (fun x hx=>hsp x (by simp[hx]))
 have:=trodAll_cons_mk hst0 (trodAll_cons_mk hst1 (trodAll_cons_mk hst2 (trodAll_mk0 (enc:=en) (P:=Tryd.prog) (w:=W') (base:=0) (spare:=sp) (held:=true))))
 rw[List.append_nil]at this
 rw[Tryd.params4]
 exact this
theorem zKl (os:Os):laidMet Tryd.prog Rows.finderCountsAllUptoRow.laid ((zht os).forCall (fun _ _=>0) ⟨#[], #[.agg #[.int .i64 0,.string ⟨#[]⟩,.slice none 0 0,.slice none 0 0],.agg #[.int .i64 0,.string ⟨#[]⟩,.slice none 0 0,.slice none 0 0],.int .i64 0],[]⟩).memory:=
 laidMet_of_run' 8 (by kernel_rfl) (by kernel_rfl)
theorem zKz (os:Os){H:Type}(en:TypeId×Value→H):∃places,DataW.whole en Tryd.prog ((zht os).forCall (fun _ _=>0) ⟨#[], #[.agg #[.int .i64 0,.string ⟨#[]⟩,.slice none 0 0,.slice none 0 0],.agg #[.int .i64 0,.string ⟨#[]⟩,.slice none 0 0,.slice none 0 0],.int .i64 0],[]⟩).memory Tryd.f4.params.toList Rows.finderCountsAllSpec.vars false #[Value.agg #[.int .i64 0,.string ⟨#[]⟩,.slice none 0 0,.slice none 0 0],Value.agg #[.int .i64 0,.string ⟨#[]⟩,.slice none 0 0,.slice none 0 0],Value.int .i64 0].toList 8=some ([.agg [.lit (.int .i64 0),.lit (.string []),.nil,.nil],.agg [.lit (.int .i64 0),.lit (.string []),.nil,.nil],.lit (.int .i64 0)],[],places):=
 ⟨[],by kernel_rfl⟩
theorem zKd (hT:Abs.zap Tryd.prog GA I14)(os:Os)(started:os.Started)(H:Type)(en:TypeId×Value→H)(F:Stop.Interp):
  ReturnsInHanded {} Tryd.checked os 4 .any ((Rows.OpenSpec.upto Rows.finderCountsAllSpec).preRow en Tryd.prog Tryd.f4 Rows.finderCountsAllUptoRow.domain false Rows.finderCountsAllUptoRow.laid) (((Rows.OpenSpec.upto Rows.finderCountsAllSpec).at F).post en Tryd.prog Tryd.f4 false true false false):=by
 obtain⟨places,hx⟩:=zKz os en
 refine returnsInHanded_of_row (C:=Tryd.checked) (s:=Rows.OpenSpec.upto Rows.finderCountsAllSpec) own started (by kernel_rfl) Tryd.func4
  (witness_row_at (enc:=en) (C:=Tryd.checked) false (zht os) #[.agg #[.int .i64 0,.string ⟨#[]⟩,.slice none 0 0,.slice none 0 0],.agg #[.int .i64 0,.string ⟨#[]⟩,.slice none 0 0,.slice none 0 0],.int .i64 0] rfl (by kernel_rfl) (by kernel_rfl) (by kernel_rfl)
   (OpenSpec.preRow_of_cond 8 hx (by kernel_rfl) (fun k hk=>by cases hk;kernel_rfl) (by kernel_rfl) (zKl os))) ?_
 intro W base args ds gs before hval hW _ hc _ hL _ _
 have hL':laidMet Tryd.prog Rows.finderCountsAllUptoRow.laid W:=hL
 have hb:Rows.uptoBulkAll (ds++gs)≤1048576:=of_decide_eq_true (hc _ rfl)
 exact zKj hT H en W base args ds gs before hval hW (zpe (zKD hL')) (Nat.le_trans (zm7 ds gs) hb)
theorem zKt:(Rows.finderCountsAllUptoRow.inPlace==Tryd.pinned.checked.prog.inPlace 4)=true:=by kernel_rfl
theorem zKB:(Rows.finderCountsAllUptoRow.unfollowed==Tryd.pinned.checked.prog.unfollowed 4)=true:=by kernel_rfl
theorem zKA:(Rows.finderCountsAllUptoRow.recurses==Tryd.pinned.checked.prog.recurses 4)=true:=by kernel_rfl
theorem zKs:(Rows.finderCountsAllUptoRow.named==Tryd.pinned.checked.prog.varsNamed 4)=true:=by kernel_rfl
theorem zKw:false=Rows.finderCountsAllUptoRow.goesBy Tryd.pinned.checked.prog:=by kernel_rfl
theorem zKE:Rows.finderCountsAllUptoRow.wfByText (Rows.OpenSpec.upto Rows.finderCountsAllSpec)=true:=by kernel_rfl
theorem zKC:Tryd.pinned.checked.prog.funcNamed "glosswright/glosswrightlaw2.FinderCountsAll" =some 4:=by kernel_rfl
theorem zKu:joinedFacts Tryd.pinned.checked.prog 4 Tryd.f4 (Rows.OpenSpec.upto Rows.finderCountsAllSpec).bare Rows.finderCountsAllUptoRow=true:=by
 unfold joinedFacts
 exact(am (am (am (am (am (am (am (am (am (am (am (am (am (am (am (am (am (am (am (am (am (am (am (am (am (am (am (am (am (am (am (by kernel_rfl) ztk) zBC) (by kernel_rfl)) (by kernel_rfl)) (by kernel_rfl)) zyj) (by kernel_rfl)) zyg) zKt) zKB) zKA) zKs) (by kernel_rfl)) (by kernel_rfl)) (by kernel_rfl)) (by kernel_rfl)) (by kernel_rfl)) (by kernel_rfl)) (by kernel_rfl)) (by kernel_rfl)) (by kernel_rfl)) zBA) (by kernel_rfl)) zyf) zyd) zyh) zBB) (by kernel_rfl)) (by kernel_rfl)) (by kernel_rfl)) (by kernel_rfl))
theorem zKo (hT:Abs.zap Tryd.prog GA I14):Rows.FinderCountsAllUptoSaid:=
 OpenClaim.holds_of_cond 4 Tryd.f4 rfl rfl rfl rfl rfl rfl rfl ⟨rfl,rfl,rfl,rfl,rfl⟩ rfl rfl rfl rfl rfl zKC Tryd.func4 zKu
  (of_decide_eq_true (by kernel_rfl)) (by unfold Func.isWrapper;first|(rw[if_pos (by decide+kernel)];kernel_rfl)|(rw[if_neg (by decide+kernel)];exact⟨rfl,rfl⟩))
  (fun os started H en _ F=>by rw[OpenClaim.pre_eq_preRow];exact zKd hT os started H en F)
theorem zKy (f:FuncId)(fn:Func)(hf:Tryd.pinned.checked.prog.funcNamed "glosswright/glosswrightlaw2.FinderCountsAll" =some f)(hfn:Tryd.pinned.checked.prog.funcs[f]?=some fn):
  false=Tryd.pinned.checked.prog.looks []∧∀(j:Nat) t,fn.params[j]?=some t→Tryd.pinned.checked.prog.wantsStandIn t=false:=by
 obtain rfl:f=4:=Option.some.inj ((show Tryd.prog.funcNamed "glosswright/glosswrightlaw2.FinderCountsAll" =some 4 from zKC).symm.trans hf)|>.symm
 obtain rfl:fn=Tryd.f4:=(Option.some.inj (Tryd.func4.symm.trans hfn)).symm
 refine⟨zyi,fun j t ht=>?_⟩
 rw[Tryd.params4]at ht
 have hm:t=29∨t=29∨t=3:=by simpa using Array.mem_of_getElem? ht
 rcases hm with rfl|rfl|rfl
 ·exact(show Tryd.prog.wantsStandIn 29=false by kernel_rfl)
 ·exact(show Tryd.prog.wantsStandIn 29=false by kernel_rfl)
 ·exact(show Tryd.prog.wantsStandIn 3=false by kernel_rfl)
theorem zKi (hT:Abs.zap Tryd.prog GA I14):Rows.FinderCountsAllUptoCardSaid:=
 Claim7.holds_tied_plain_at .later [] _ _ _ _ (zKo hT) (fun _ h=>by cases h) zKE (fun _ h=>by cases h) finderCountsAllUpto_row_tie rfl ⟨rfl,rfl⟩ (by kernel_rfl) rfl zKy zKw
theorem countsAllCard:Rows.FinderCountsAllUptoCardSaid:=zKi (zFO)
#print axioms countsAllCard
end Go.Proofs.YtkkffhphodngkaaDoor
