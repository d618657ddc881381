/- Among the readings of the pieces of a formula is its canonical form (ScopeFindsTheWhole), for inputs within the bound of the statement's second form; no conditions. -/
import Derived.Test.YtmconmiemdinkaaGreatDoorY13
import Derived.Test.YtmconmiemdinkaaGreatDoorY27
set_option maxRecDepth 100000
set_option linter.unusedSimpArgs false
namespace Go.Proofs.YtmconmiemdinkaaGreatDoor
open Go Go.Abs Go.RowKit Go.WideShapes Go.ChangeShapes Go.ChangeAt
theorem zHJ {W:World}(h:laidMet Tryz.prog Rows.scopeFindsTheWholeUptoRow.laid W):∀g,GA g≠[]→g<W.heap.size∧∃cs T fr,W.heap[g]?=some (.cells cs T fr)∧cs.size=(GA g).length∧∀j,j<(GA g).length→∃v,cs[j]?=some v∧za2 W (zk1 W) v ((GA g).getD j .nilf):=
 zkb h (.tail _ (.tail _ (.tail _ (.head _)))) (.tail _ (.tail _ (.head _)))
theorem zrR (hT:zai Tryz.prog GA Rf1)(H:Type)(en:TypeId×Value→H)(W:World)(base:Nat)(args:Array Value)(ds gs:List (DataW H))(before:List MemPlace)
  (hval:∀(j:Nat) t v,Tryz.f6.params[j]?=some t→args[j]?=some v→Value.okWide Tryz.prog W .any base t v)
  (hW:DataW.Whole en Tryz.prog Tryz.f6.params.toList Rows.scopeFindsTheWholeSpec.vars false W args.toList ds gs before)
  (hglob:zfs GA W (zk1 W))(hbk:Rows.uptoBulkAll ds≤1048576):
  Calls Tryz.prog 6 args W fun e W'=>∃v,e= .returned v∧Rows.scopeFindsTheWholeSpec.post en Tryz.prog Tryz.f6 false true false false W args v W':=by
 have hW':=hW
 obtain⟨p,q,hA0,hV,rfl,hfz,hnd⟩:=hW
 have hA:DataW.TrodAll en Tryz.prog W 0 (fun _=>true) true Tryz.f6.params.toList args.toList ds p:=hA0
 rw[Tryz.params6]at hA hval
 obtain⟨v0,vs0,d0,ds0,p0,q0,hargs,rfl,rfl,h0,r0⟩:=trodAll_cons hA
 obtain⟨rfl,rfl,rfl⟩:=trodAll_nil r0
 obtain rfl:args= #[v0]:=by cases args;simp_all
 obtain⟨rfl,rfl⟩:=trodVars_none hV
 obtain⟨n0,rfl,_⟩:=okWide_struct Tryz.underlying37 (hval 0 37 v0 rfl rfl)
 have h0k:=h0
 obtain⟨fuel0,hf0⟩:=h0
 clear hA0
 simp only[List.append_nil]at hW'
 have hlt:∀x∈p0,x.block<W.heap.size:=fun x hx=>by simpa using hW'.lt x (by simpa using hx)
 obtain⟨x0,l0⟩:=((zoU):RdN (SizeOf.sizeOf d0+1) (fun _ d=>Rows.uptoBulk d) Tryz.prog 37 Abs.zab) hf0 (Nat.lt_succ_self _) (by simp only[Rows.uptoBulkAll]at hbk;show Rows.uptoBulk d0≤1048576;omega)
 have hrep0:za2 W (zk1 W) (.agg n0) (enc x0):=by have h:=l0.agg;rw[zaD]at h ⊢;exact h
 have hcall:=ziD (vs:=[(.agg n0)]) (xs:=[enc x0]) (W:=W) (zu9 hT x0 hrep0.wf) hglob rfl (fun j hj=>by
  have:j=0:=by simp at hj;omega
  rcases this with rfl
  ·exact hrep0)
 refine hcall.mono fun e W' ⟨he,hs⟩=>?_
 subst he
 have hb:Below W.heap.size W W':=⟨hs.os,hs.tape,hs.output,hs.size,hs.heap⟩
 refine⟨_,rfl,zku (pa:=p0) (pv:=[]) hW' (fun _ _ _=>trodAll_cons_mk (shut_bool Tryz.underlying4 _) trodAll_mk0) (fun sp hsp=>?_) (fun _ _=>rfl) (by simp) hb (ok_one (by kernel_rfl) rfl (okWide_bool_mk Tryz.underlying4 _))⟩
 have hst0:DataW.Trod en Tryz.prog W' 0 sp true 37 (.agg n0) d0 p0:=WideElems.Trod_stays zxS (by kernel_rfl) (of_decide_eq_true (by kernel_rfl)) h0k (fun x hx=>hb.same (hlt x (by simp[hx]))) (fun x hx=>hsp x (by simp[hx]))
 have:=trodAll_cons_mk hst0 (trodAll_mk0 (enc:=en) (P:=Tryz.prog) (w:=W') (base:=0) (spare:=sp) (held:=true))
 rw[List.append_nil]at this
 rw[Tryz.params6]
 exact this
theorem zsB (os:Os):laidMet Tryz.prog Rows.scopeFindsTheWholeUptoRow.laid ((zh2 os).forCall (fun _ _=>0) ⟨#[], #[.agg #[.int .i64 0,.string ⟨#[]⟩,.slice none 0 0,.slice none 0 0]],[]⟩).memory:=
 laidMet_of_run' 8 (by kernel_rfl) (by kernel_rfl)
theorem zBt (os:Os){H:Type}(en:TypeId×Value→H):∃places,DataW.whole en Tryz.prog ((zh2 os).forCall (fun _ _=>0) ⟨#[], #[.agg #[.int .i64 0,.string ⟨#[]⟩,.slice none 0 0,.slice none 0 0]],[]⟩).memory Tryz.f6.params.toList Rows.scopeFindsTheWholeSpec.vars false #[Value.agg #[.int .i64 0,.string ⟨#[]⟩,.slice none 0 0,.slice none 0 0]].toList 8=some ([.agg [.lit (.int .i64 0),.lit (.string []),.nil,.nil]],[],places):=
 ⟨[],by kernel_rfl⟩
theorem znK (hT:Abs.zai Tryz.prog GA Rf1)(os:Os)(started:os.Started)(H:Type)(en:TypeId×Value→H)(F:Stop.Interp):
  ReturnsInHanded {} Tryz.checked os 6 .any ((Rows.OpenSpec.upto Rows.scopeFindsTheWholeSpec).preRow en Tryz.prog Tryz.f6 Rows.scopeFindsTheWholeUptoRow.domain false Rows.scopeFindsTheWholeUptoRow.laid) (((Rows.OpenSpec.upto Rows.scopeFindsTheWholeSpec).at F).post en Tryz.prog Tryz.f6 false true false false):=by
 obtain⟨places,hx⟩:=zBt os en
 refine returnsInHanded_of_row (C:=Tryz.checked) (s:=Rows.OpenSpec.upto Rows.scopeFindsTheWholeSpec) own started (by kernel_rfl) Tryz.func6
  (witness_row_at (enc:=en) (C:=Tryz.checked) false (zh2 os) #[.agg #[.int .i64 0,.string ⟨#[]⟩,.slice none 0 0,.slice none 0 0]] rfl (by kernel_rfl) (by kernel_rfl) (by kernel_rfl)
   (OpenSpec.preRow_of_cond 8 hx (by kernel_rfl) (fun k hk=>by cases hk;kernel_rfl) (by kernel_rfl) (zsB os))) ?_
 intro W base args ds gs before hval hW _ hc _ hL _ _
 have hL':laidMet Tryz.prog Rows.scopeFindsTheWholeUptoRow.laid W:=hL
 have hb:Rows.uptoBulkAll (ds++gs)≤1048576:=of_decide_eq_true (hc _ rfl)
 exact zrR hT H en W base args ds gs before hval hW (zqj (zHJ hL')) (Nat.le_trans (zoi ds gs) hb)
theorem zxA:(Rows.scopeFindsTheWholeUptoRow.inPlace==Tryz.pinned.checked.prog.inPlace 6)=true:=by kernel_rfl
theorem zDU:(Rows.scopeFindsTheWholeUptoRow.unfollowed==Tryz.pinned.checked.prog.unfollowed 6)=true:=by kernel_rfl
theorem zDT:(Rows.scopeFindsTheWholeUptoRow.recurses==Tryz.pinned.checked.prog.recurses 6)=true:=by kernel_rfl
theorem zxz:(Rows.scopeFindsTheWholeUptoRow.named==Tryz.pinned.checked.prog.varsNamed 6)=true:=by kernel_rfl
theorem zAr:false=Rows.scopeFindsTheWholeUptoRow.goesBy Tryz.pinned.checked.prog:=by kernel_rfl
theorem zIq:Rows.scopeFindsTheWholeUptoRow.wfByText (Rows.OpenSpec.upto Rows.scopeFindsTheWholeSpec)=true:=by kernel_rfl
theorem zFK:Tryz.pinned.checked.prog.funcNamed "glosswright/glosswrightlaw2.ScopeFindsTheWhole" =some 6:=by kernel_rfl
theorem zxD:joinedFacts Tryz.pinned.checked.prog 6 Tryz.f6 (Rows.OpenSpec.upto Rows.scopeFindsTheWholeSpec).bare Rows.scopeFindsTheWholeUptoRow=true:=by
 unfold joinedFacts
 exact(am (am (am (am (am (am (am (am (am (am (am (am (am (am (am (am (am (am (am (am (am (am (am (am (am (am (am (am (am (am (am (by kernel_rfl) zu0) zDS) (by kernel_rfl)) (by kernel_rfl)) (by kernel_rfl)) zAw) (by kernel_rfl)) zAt) zxA) zDU) zDT) zxz) (by kernel_rfl)) (by kernel_rfl)) (by kernel_rfl)) (by kernel_rfl)) (by kernel_rfl)) (by kernel_rfl)) (by kernel_rfl)) (by kernel_rfl)) (by kernel_rfl)) zDQ) (by kernel_rfl)) zAs) zAq) zAu) zDR) (by kernel_rfl)) (by kernel_rfl)) (by kernel_rfl)) (by kernel_rfl))
theorem ztd (hT:Abs.zai Tryz.prog GA Rf1):Rows.ScopeFindsTheWholeUptoSaid:=
 OpenClaim.holds_of_cond 6 Tryz.f6 rfl rfl rfl rfl rfl rfl rfl ⟨rfl,rfl,rfl,rfl,rfl⟩ rfl rfl rfl rfl rfl zFK Tryz.func6 zxD
  (of_decide_eq_true (by kernel_rfl)) (by unfold Func.isWrapper;first|(rw[if_pos (by decide+kernel)];kernel_rfl)|(rw[if_neg (by decide+kernel)];exact⟨rfl,rfl⟩))
  (fun os started H en _ F=>by rw[OpenClaim.pre_eq_preRow];exact znK hT os started H en F)
theorem zBn (f:FuncId)(fn:Func)(hf:Tryz.pinned.checked.prog.funcNamed "glosswright/glosswrightlaw2.ScopeFindsTheWhole" =some f)(hfn:Tryz.pinned.checked.prog.funcs[f]?=some fn):
  false=Tryz.pinned.checked.prog.looks []∧∀(j:Nat) t,fn.params[j]?=some t→Tryz.pinned.checked.prog.wantsStandIn t=false:=by
 obtain rfl:f=6:=Option.some.inj ((show Tryz.prog.funcNamed "glosswright/glosswrightlaw2.ScopeFindsTheWhole" =some 6 from zFK).symm.trans hf)|>.symm
 obtain rfl:fn=Tryz.f6:=(Option.some.inj (Tryz.func6.symm.trans hfn)).symm
 refine⟨zAv,fun j t ht=>?_⟩
 rw[Tryz.params6]at ht
 have hm:t=37:=by simpa using Array.mem_of_getElem? ht
 rcases hm with rfl
 ·exact(show Tryz.prog.wantsStandIn 37=false by kernel_rfl)
theorem zrI (hT:Abs.zai Tryz.prog GA Rf1):Rows.ScopeFindsTheWholeUptoCardSaid:=
 Claim7.holds_tied_plain_at .later [] _ _ _ _ (ztd hT) (fun _ h=>by cases h) zIq (fun _ h=>by cases h) scopeFindsTheWholeUpto_row_tie rfl ⟨rfl,rfl⟩ (by kernel_rfl) rfl zBn zAr
theorem findsWholeCard:Rows.ScopeFindsTheWholeUptoCardSaid:=zrI (zIg)
#print axioms findsWholeCard
end Go.Proofs.YtmconmiemdinkaaGreatDoor
