/- With one more constraint there are no other readings (ScopeMoreConstraints), for inputs within the bound of the statement's second form; no conditions. -/
import Derived.Test.YtmconmiemdinkaaGreatDoorY13
import Derived.Test.YtmconmiemdinkaaGreatDoorY28
import Derived.Test.YtmconmiemdinkaaGreatDoorQ210
set_option maxRecDepth 100000
set_option linter.unusedSimpArgs false
namespace Go.Proofs.YtmconmiemdinkaaGreatDoor
open Go Go.Abs Go.RowKit Go.WideShapes Go.ChangeShapes Go.ChangeAt
theorem znh {W:World}(h:laidMet Tryz.prog Rows.scopeMoreConstraintsUptoRow.laid W):∀g,GA g≠[]→g<W.heap.size∧∃cs T fr,W.heap[g]?=some (.cells cs T fr)∧cs.size=(GA g).length∧∀j,j<(GA g).length→∃v,cs[j]?=some v∧za2 W (zk1 W) v ((GA g).getD j .nilf):=
 zkb h (.tail _ (.tail _ (.tail _ (.head _)))) (.tail _ (.tail _ (.head _)))
theorem ziQ (hT:Abs.zai Tryz.prog GA Re3)(s:zcT)(o:Abs.zjC)(h1:(enc s).Wf)(h2:(enc o).Wf):zaH Tryz.prog GA 3 [.fz (enc s),.fz (enc o)] (hpL []) 0 (fun d _ _=>d= .fz (.b true)):=zkG hT s.1 s.2 o h1 h2
theorem zhE (hT:zai Tryz.prog GA Re3)(H:Type)(en:TypeId×Value→H)(W:World)(base:Nat)(args:Array Value)(ds gs:List (DataW H))(before:List MemPlace)
  (hval:∀(j:Nat) t v,Tryz.f3.params[j]?=some t→args[j]?=some v→Value.okWide Tryz.prog W .any base t v)
  (hW:DataW.Whole en Tryz.prog Tryz.f3.params.toList Rows.scopeMoreConstraintsSpec.vars false W args.toList ds gs before)
  (hglob:zfs GA W (zk1 W))(hbk:Rows.uptoBulkAll ds≤1048576):
  Calls Tryz.prog 3 args W fun e W'=>∃v,e= .returned v∧Rows.scopeMoreConstraintsSpec.post en Tryz.prog Tryz.f3 false true false false W args v W':=by
 have hW':=hW
 obtain⟨p,q,hA0,hV,rfl,hfz,hnd⟩:=hW
 have hA:DataW.TrodAll en Tryz.prog W 0 (fun _=>true) true Tryz.f3.params.toList args.toList ds p:=hA0
 rw[Tryz.params3]at hA hval
 obtain⟨v0,vs0,d0,ds0,p0,q0,hargs,rfl,rfl,h0,r0⟩:=trodAll_cons hA
 obtain⟨v1,vs1,d1,ds1,p1,q1,rfl,rfl,rfl,h1,r1⟩:=trodAll_cons r0
 obtain⟨rfl,rfl,rfl⟩:=trodAll_nil r1
 obtain rfl:args= #[v0,v1]:=by cases args;simp_all
 obtain⟨rfl,rfl⟩:=trodVars_none hV
 obtain⟨n0,rfl,_⟩:=okWide_struct Tryz.underlying26 (hval 0 26 v0 rfl rfl)
 obtain⟨n1,rfl,_⟩:=okWide_struct Tryz.underlying28 (hval 1 28 v1 rfl rfl)
 have h0k:=h0
 have h1k:=h1
 obtain⟨fuel0,hf0⟩:=h0
 obtain⟨fuel1,hf1⟩:=h1
 clear hA0
 simp only[List.append_nil]at hW'
 have hlt:∀x∈p0++p1,x.block<W.heap.size:=fun x hx=>by simpa using hW'.lt x (by simpa using hx)
 obtain⟨x0,l0⟩:=((zgT):RdN (SizeOf.sizeOf d0+1) (fun _ d=>Rows.uptoBulk d) Tryz.prog 26 zcT) hf0 (Nat.lt_succ_self _) (by simp only[Rows.uptoBulkAll]at hbk;show Rows.uptoBulk d0≤1048576;omega)
 have hrep0:za2 W (zk1 W) (.agg n0) (enc x0):=by have h:=l0.agg;rw[zgq]at h ⊢;exact h
 obtain⟨x1,l1⟩:=((zvt):RdN (SizeOf.sizeOf d1+1) (fun _ d=>Rows.uptoBulk d) Tryz.prog 28 Abs.zjC) hf1 (Nat.lt_succ_self _) (by simp only[Rows.uptoBulkAll]at hbk;show Rows.uptoBulk d1≤1048576;omega)
 have hrep1:za2 W (zk1 W) (.agg n1) (enc x1):=by have h:=l1.agg;rw[zoD]at h ⊢;exact h
 have hcall:=ziD (vs:=[(.agg n0),(.agg n1)]) (xs:=[enc x0,enc x1]) (W:=W) (ziQ hT x0 x1 hrep0.wf hrep1.wf) hglob rfl (fun j hj=>by
  have:j=0∨j=1:=by simp at hj;omega
  rcases this with rfl|rfl
  ·exact hrep0
  ·exact hrep1)
 refine hcall.mono fun e W' ⟨he,hs⟩=>?_
 subst he
 have hb:Below W.heap.size W W':=⟨hs.os,hs.tape,hs.output,hs.size,hs.heap⟩
 refine⟨_,rfl,zku (pa:=p0++p1) (pv:=[]) hW' (fun _ _ _=>trodAll_cons_mk (shut_bool Tryz.underlying4 _) trodAll_mk0) (fun sp hsp=>?_) (fun _ _=>rfl) (by simp) hb (ok_one (by kernel_rfl) rfl (okWide_bool_mk Tryz.underlying4 _))⟩
 have hst0:DataW.Trod en Tryz.prog W' 0 sp true 26 (.agg n0) d0 p0:=WideElems.Trod_stays zxS (by kernel_rfl) (of_decide_eq_true (by kernel_rfl)) h0k (fun x hx=>hb.same (hlt x (by simp[hx]))) (fun x hx=>hsp x (by simp[hx]))
 have hst1:DataW.Trod en Tryz.prog W' 0 sp true 28 (.agg n1) d1 p1:=WideElems.Trod_stays zxS (by kernel_rfl) (of_decide_eq_true (by kernel_rfl)) h1k (fun x hx=>hb.same (hlt x (by simp[hx]))) (fun x hx=>hsp x (by simp[hx]))
 have:=trodAll_cons_mk hst0 (trodAll_cons_mk hst1 (trodAll_mk0 (enc:=en) (P:=Tryz.prog) (w:=W') (base:=0) (spare:=sp) (held:=true)))
 rw[List.append_nil]at this
 rw[Tryz.params3]
 exact this
theorem zhW (os:Os):laidMet Tryz.prog Rows.scopeMoreConstraintsUptoRow.laid ((zh2 os).forCall (fun _ _=>0) ⟨#[], #[.agg #[.slice none 0 0,.slice none 0 0,.slice none 0 0],.agg #[.string ⟨#[]⟩,.string ⟨#[]⟩]],[]⟩).memory:=
 laidMet_of_run' 8 (by kernel_rfl) (by kernel_rfl)
theorem zlq (os:Os){H:Type}(en:TypeId×Value→H):∃places,DataW.whole en Tryz.prog ((zh2 os).forCall (fun _ _=>0) ⟨#[], #[.agg #[.slice none 0 0,.slice none 0 0,.slice none 0 0],.agg #[.string ⟨#[]⟩,.string ⟨#[]⟩]],[]⟩).memory Tryz.f3.params.toList Rows.scopeMoreConstraintsSpec.vars false #[Value.agg #[.slice none 0 0,.slice none 0 0,.slice none 0 0],Value.agg #[.string ⟨#[]⟩,.string ⟨#[]⟩]].toList 8=some ([.agg [.nil,.nil,.nil],.agg [.lit (.string []),.lit (.string [])]],[],places):=
 ⟨[],by kernel_rfl⟩
theorem zgv (hT:Abs.zai Tryz.prog GA Re3)(os:Os)(started:os.Started)(H:Type)(en:TypeId×Value→H)(F:Stop.Interp):
  ReturnsInHanded {} Tryz.checked os 3 .any ((Rows.OpenSpec.upto Rows.scopeMoreConstraintsSpec).preRow en Tryz.prog Tryz.f3 Rows.scopeMoreConstraintsUptoRow.domain false Rows.scopeMoreConstraintsUptoRow.laid) (((Rows.OpenSpec.upto Rows.scopeMoreConstraintsSpec).at F).post en Tryz.prog Tryz.f3 false true false false):=by
 obtain⟨places,hx⟩:=zlq os en
 refine returnsInHanded_of_row (C:=Tryz.checked) (s:=Rows.OpenSpec.upto Rows.scopeMoreConstraintsSpec) own started (by kernel_rfl) Tryz.func3
  (witness_row_at (enc:=en) (C:=Tryz.checked) false (zh2 os) #[.agg #[.slice none 0 0,.slice none 0 0,.slice none 0 0],.agg #[.string ⟨#[]⟩,.string ⟨#[]⟩]] rfl (by kernel_rfl) (by kernel_rfl) (by kernel_rfl)
   (OpenSpec.preRow_of_cond 8 hx (by kernel_rfl) (fun k hk=>by cases hk;kernel_rfl) (by kernel_rfl) (zhW os))) ?_
 intro W base args ds gs before hval hW _ hc _ hL _ _
 have hL':laidMet Tryz.prog Rows.scopeMoreConstraintsUptoRow.laid W:=hL
 have hb:Rows.uptoBulkAll (ds++gs)≤1048576:=of_decide_eq_true (hc _ rfl)
 exact zhE hT H en W base args ds gs before hval hW (zqj (znh hL')) (Nat.le_trans (zoi ds gs) hb)
theorem zkA:(Rows.scopeMoreConstraintsUptoRow.inPlace==Tryz.pinned.checked.prog.inPlace 3)=true:=by kernel_rfl
theorem zmw:(Rows.scopeMoreConstraintsUptoRow.unfollowed==Tryz.pinned.checked.prog.unfollowed 3)=true:=by kernel_rfl
theorem zl3:(Rows.scopeMoreConstraintsUptoRow.recurses==Tryz.pinned.checked.prog.recurses 3)=true:=by kernel_rfl
theorem zkq:(Rows.scopeMoreConstraintsUptoRow.named==Tryz.pinned.checked.prog.varsNamed 3)=true:=by kernel_rfl
theorem zkW:false=Rows.scopeMoreConstraintsUptoRow.goesBy Tryz.pinned.checked.prog:=by kernel_rfl
theorem znK:Rows.scopeMoreConstraintsUptoRow.wfByText (Rows.OpenSpec.upto Rows.scopeMoreConstraintsSpec)=true:=by kernel_rfl
theorem znc:Tryz.pinned.checked.prog.funcNamed "glosswright/glosswrightlaw2.ScopeMoreConstraints" =some 3:=by kernel_rfl
theorem zkE:joinedFacts Tryz.pinned.checked.prog 3 Tryz.f3 (Rows.OpenSpec.upto Rows.scopeMoreConstraintsSpec).bare Rows.scopeMoreConstraintsUptoRow=true:=by
 unfold joinedFacts
 exact(am (am (am (am (am (am (am (am (am (am (am (am (am (am (am (am (am (am (am (am (am (am (am (am (am (am (am (am (am (am (am (by kernel_rfl) zu0) zDS) (by kernel_rfl)) (by kernel_rfl)) (by kernel_rfl)) zAw) (by kernel_rfl)) zAt) zkA) zmw) zl3) zkq) (by kernel_rfl)) (by kernel_rfl)) (by kernel_rfl)) (by kernel_rfl)) (by kernel_rfl)) (by kernel_rfl)) (by kernel_rfl)) (by kernel_rfl)) (by kernel_rfl)) zDQ) (by kernel_rfl)) zAs) zAq) zAu) zDR) (by kernel_rfl)) (by kernel_rfl)) (by kernel_rfl)) (by kernel_rfl))
theorem ziM (hT:Abs.zai Tryz.prog GA Re3):Rows.ScopeMoreConstraintsUptoSaid:=
 OpenClaim.holds_of_cond 3 Tryz.f3 rfl rfl rfl rfl rfl rfl rfl ⟨rfl,rfl,rfl,rfl,rfl⟩ rfl rfl rfl rfl rfl znc Tryz.func3 zkE
  (of_decide_eq_true (by kernel_rfl)) (by unfold Func.isWrapper;first|(rw[if_pos (by decide+kernel)];kernel_rfl)|(rw[if_neg (by decide+kernel)];exact⟨rfl,rfl⟩))
  (fun os started H en _ F=>by rw[OpenClaim.pre_eq_preRow];exact zgv hT os started H en F)
theorem zla (f:FuncId)(fn:Func)(hf:Tryz.pinned.checked.prog.funcNamed "glosswright/glosswrightlaw2.ScopeMoreConstraints" =some f)(hfn:Tryz.pinned.checked.prog.funcs[f]?=some fn):
  false=Tryz.pinned.checked.prog.looks []∧∀(j:Nat) t,fn.params[j]?=some t→Tryz.pinned.checked.prog.wantsStandIn t=false:=by
 obtain rfl:f=3:=Option.some.inj ((show Tryz.prog.funcNamed "glosswright/glosswrightlaw2.ScopeMoreConstraints" =some 3 from znc).symm.trans hf)|>.symm
 obtain rfl:fn=Tryz.f3:=(Option.some.inj (Tryz.func3.symm.trans hfn)).symm
 refine⟨zAv,fun j t ht=>?_⟩
 rw[Tryz.params3]at ht
 have hm:t=26∨t=28:=by simpa using Array.mem_of_getElem? ht
 rcases hm with rfl|rfl
 ·exact(show Tryz.prog.wantsStandIn 26=false by kernel_rfl)
 ·exact(show Tryz.prog.wantsStandIn 28=false by kernel_rfl)
theorem zhC (hT:Abs.zai Tryz.prog GA Re3):Rows.ScopeMoreConstraintsUptoCardSaid:=
 Claim7.holds_tied_plain_at .later [] _ _ _ _ (ziM hT) (fun _ h=>by cases h) znK (fun _ h=>by cases h) scopeMoreConstraintsUpto_row_tie rfl ⟨rfl,rfl⟩ (by kernel_rfl) rfl zla zkW
theorem moreConstraintsCard:Rows.ScopeMoreConstraintsUptoCardSaid:=zhC (zIf)
#print axioms moreConstraintsCard
end Go.Proofs.YtmconmiemdinkaaGreatDoor
