/- Validate, Readings and Solvable answer as the document says (ScopeMatchesSpec), for inputs within the bound of the statement's second form; no conditions. -/
import Derived.Test.YtmconmiemdinkaaGreatDoorY13
import Derived.Test.YtmconmiemdinkaaGreatDoorY26
set_option maxRecDepth 100000
set_option linter.unusedSimpArgs false
namespace Go.Proofs.YtmconmiemdinkaaGreatDoor
open Go Go.Abs Go.RowKit Go.WideShapes Go.ChangeShapes Go.ChangeAt
theorem zJv {W:World}(h:laidMet Tryz.prog Rows.scopeMatchesSpecUptoRow.laid W):∀g,GA g≠[]→g<W.heap.size∧∃cs T fr,W.heap[g]?=some (.cells cs T fr)∧cs.size=(GA g).length∧∀j,j<(GA g).length→∃v,cs[j]?=some v∧za8 W (zlU W) v ((GA g).getD j .nilf):=
 zk7 h (.tail _ (.tail _ (.tail _ (.head _)))) (.tail _ (.tail _ (.head _)))
theorem zsU (hT:zan Tryz.prog GA Rg3)(H:Type)(en:TypeId×Value→H)(W:World)(base:Nat)(args:Array Value)(ds gs:List (DataW H))(before:List MemPlace)
  (hval:∀(j:Nat) t v,Tryz.f4.params[j]?=some t→args[j]?=some v→Value.okWide Tryz.prog W .any base t v)
  (hW:DataW.Whole en Tryz.prog Tryz.f4.params.toList Rows.scopeMatchesSpecSpec.vars false W args.toList ds gs before)
  (hglob:zfX GA W (zlU W))(hbk:Rows.uptoBulkAll ds≤1048576):
  Calls Tryz.prog 4 args W fun e W'=>∃v,e= .returned v∧Rows.scopeMatchesSpecSpec.post en Tryz.prog Tryz.f4 false true false false W args v W':=by
 have hW':=hW
 obtain⟨p,q,hA0,hV,rfl,hfz,hnd⟩:=hW
 have hA:DataW.TrodAll en Tryz.prog W 0 (fun _=>true) true Tryz.f4.params.toList args.toList ds p:=hA0
 rw[Tryz.params4]at hA hval
 obtain⟨v0,vs0,d0,ds0,p0,q0,hargs,rfl,rfl,h0,r0⟩:=trodAll_cons hA
 obtain⟨rfl,rfl,rfl⟩:=trodAll_nil r0
 obtain rfl:args= #[v0]:=by cases args;simp_all
 obtain⟨rfl,rfl⟩:=trodVars_none hV
 obtain⟨n0,rfl,_⟩:=okWide_struct Tryz.underlying26 (hval 0 26 v0 rfl rfl)
 have h0k:=h0
 obtain⟨fuel0,hf0⟩:=h0
 clear hA0
 simp only[List.append_nil]at hW'
 have hlt:∀x∈p0,x.block<W.heap.size:=fun x hx=>by simpa using hW'.lt x (by simpa using hx)
 obtain⟨x0,l0⟩:=((zrD):RdN (SizeOf.sizeOf d0+1) (fun _ d=>Rows.uptoBulk d) Tryz.prog 26 Abs.zar) hf0 (Nat.lt_succ_self _) (by simp only[Rows.uptoBulkAll]at hbk;show Rows.uptoBulk d0≤1048576;omega)
 have hrep0:za8 W (zlU W) (.agg n0) (enc x0):=by have h:=l0.agg;rw[zdm]at h ⊢;exact h
 have hcall:=zjm (vs:=[(.agg n0)]) (xs:=[enc x0]) (W:=W) (ztD hT x0 hrep0.wf) hglob rfl (fun j hj=>by
  have:j=0:=by simp at hj;omega
  rcases this with rfl
  ·exact hrep0)
 refine hcall.mono fun e W' ⟨he,hs⟩=>?_
 subst he
 have hb:Below W.heap.size W W':=⟨hs.os,hs.tape,hs.output,hs.size,hs.heap⟩
 refine⟨_,rfl,zlr (pa:=p0) (pv:=[]) hW' (fun _ _ _=>trodAll_cons_mk (shut_bool Tryz.underlying4 _) trodAll_mk0) (fun sp hsp=>?_) (fun _ _=>rfl) (by simp) hb (ok_one (by kernel_rfl) rfl (okWide_bool_mk Tryz.underlying4 _))⟩
 have hst0:DataW.Trod en Tryz.prog W' 0 sp true 26 (.agg n0) d0 p0:=WideElems.Trod_stays zzb (by kernel_rfl) (of_decide_eq_true (by kernel_rfl)) h0k (fun x hx=>hb.same (hlt x (by simp[hx]))) (fun x hx=>hsp x (by simp[hx]))
 have:=trodAll_cons_mk hst0 (trodAll_mk0 (enc:=en) (P:=Tryz.prog) (w:=W') (base:=0) (spare:=sp) (held:=true))
 rw[List.append_nil]at this
 rw[Tryz.params4]
 exact this
theorem ztC (os:Os):laidMet Tryz.prog Rows.scopeMatchesSpecUptoRow.laid ((ziH os).forCall (fun _ _=>0) ⟨#[], #[.agg #[.slice none 0 0,.slice none 0 0,.slice none 0 0]],[]⟩).memory:=
 laidMet_of_run' 8 (by kernel_rfl) (by kernel_rfl)
theorem zCW (os:Os){H:Type}(en:TypeId×Value→H):∃places,DataW.whole en Tryz.prog ((ziH os).forCall (fun _ _=>0) ⟨#[], #[.agg #[.slice none 0 0,.slice none 0 0,.slice none 0 0]],[]⟩).memory Tryz.f4.params.toList Rows.scopeMatchesSpecSpec.vars false #[Value.agg #[.slice none 0 0,.slice none 0 0,.slice none 0 0]].toList 8=some ([.agg [.nil,.nil,.nil]],[],places):=
 ⟨[],by kernel_rfl⟩
theorem zoJ (hT:Abs.zan Tryz.prog GA Rg3)(os:Os)(started:os.Started)(H:Type)(en:TypeId×Value→H)(F:Stop.Interp):
  ReturnsInHanded {} Tryz.checked os 4 .any ((Rows.OpenSpec.upto Rows.scopeMatchesSpecSpec).preRow en Tryz.prog Tryz.f4 Rows.scopeMatchesSpecUptoRow.domain false Rows.scopeMatchesSpecUptoRow.laid) (((Rows.OpenSpec.upto Rows.scopeMatchesSpecSpec).at F).post en Tryz.prog Tryz.f4 false true false false):=by
 obtain⟨places,hx⟩:=zCW os en
 refine returnsInHanded_of_row (C:=Tryz.checked) (s:=Rows.OpenSpec.upto Rows.scopeMatchesSpecSpec) own started (by kernel_rfl) Tryz.func4
  (witness_row_at (enc:=en) (C:=Tryz.checked) false (ziH os) #[.agg #[.slice none 0 0,.slice none 0 0,.slice none 0 0]] rfl (by kernel_rfl) (by kernel_rfl) (by kernel_rfl)
   (OpenSpec.preRow_of_cond 8 hx (by kernel_rfl) (fun k hk=>by cases hk;kernel_rfl) (by kernel_rfl) (ztC os))) ?_
 intro W base args ds gs before hval hW _ hc _ hL _ _
 have hL':laidMet Tryz.prog Rows.scopeMatchesSpecUptoRow.laid W:=hL
 have hb:Rows.uptoBulkAll (ds++gs)≤1048576:=of_decide_eq_true (hc _ rfl)
 exact zsU hT H en W base args ds gs before hval hW (zrk (zJv hL')) (Nat.le_trans (zpg ds gs) hb)
theorem zyT:(Rows.scopeMatchesSpecUptoRow.inPlace==Tryz.pinned.checked.prog.inPlace 4)=true:=by kernel_rfl
theorem zFr:(Rows.scopeMatchesSpecUptoRow.unfollowed==Tryz.pinned.checked.prog.unfollowed 4)=true:=by kernel_rfl
theorem zFq:(Rows.scopeMatchesSpecUptoRow.recurses==Tryz.pinned.checked.prog.recurses 4)=true:=by kernel_rfl
theorem zyS:(Rows.scopeMatchesSpecUptoRow.named==Tryz.pinned.checked.prog.varsNamed 4)=true:=by kernel_rfl
theorem zBP:false=Rows.scopeMatchesSpecUptoRow.goesBy Tryz.pinned.checked.prog:=by kernel_rfl
theorem zJ9:Rows.scopeMatchesSpecUptoRow.wfByText (Rows.OpenSpec.upto Rows.scopeMatchesSpecSpec)=true:=by kernel_rfl
theorem zHk:Tryz.pinned.checked.prog.funcNamed "glosswright/glosswrightlaw2.ScopeMatchesSpec" =some 4:=by kernel_rfl
theorem zyW:joinedFacts Tryz.pinned.checked.prog 4 Tryz.f4 (Rows.OpenSpec.upto Rows.scopeMatchesSpecSpec).bare Rows.scopeMatchesSpecUptoRow=true:=by
 unfold joinedFacts
 exact(am (am (am (am (am (am (am (am (am (am (am (am (am (am (am (am (am (am (am (am (am (am (am (am (am (am (am (am (am (am (am (by kernel_rfl) zwi) zFp) (by kernel_rfl)) (by kernel_rfl)) (by kernel_rfl)) zBU) (by kernel_rfl)) zBR) zyT) zFr) zFq) zyS) (by kernel_rfl)) (by kernel_rfl)) (by kernel_rfl)) (by kernel_rfl)) (by kernel_rfl)) (by kernel_rfl)) (by kernel_rfl)) (by kernel_rfl)) (by kernel_rfl)) zFn) (by kernel_rfl)) zBQ) zBO) zBS) zFo) (by kernel_rfl)) (by kernel_rfl)) (by kernel_rfl)) (by kernel_rfl))
theorem zui (hT:Abs.zan Tryz.prog GA Rg3):Rows.ScopeMatchesSpecUptoSaid:=
 OpenClaim.holds_of_cond 4 Tryz.f4 rfl rfl rfl rfl rfl rfl rfl ⟨rfl,rfl,rfl,rfl,rfl⟩ rfl rfl rfl rfl rfl zHk Tryz.func4 zyW
  (of_decide_eq_true (by kernel_rfl)) (by unfold Func.isWrapper;first|(rw[if_pos (by decide+kernel)];kernel_rfl)|(rw[if_neg (by decide+kernel)];exact⟨rfl,rfl⟩))
  (fun os started H en _ F=>by rw[OpenClaim.pre_eq_preRow];exact zoJ hT os started H en F)
theorem zCR (f:FuncId)(fn:Func)(hf:Tryz.pinned.checked.prog.funcNamed "glosswright/glosswrightlaw2.ScopeMatchesSpec" =some f)(hfn:Tryz.pinned.checked.prog.funcs[f]?=some fn):
  false=Tryz.pinned.checked.prog.looks []∧∀(j:Nat) t,fn.params[j]?=some t→Tryz.pinned.checked.prog.wantsStandIn t=false:=by
 obtain rfl:f=4:=Option.some.inj ((show Tryz.prog.funcNamed "glosswright/glosswrightlaw2.ScopeMatchesSpec" =some 4 from zHk).symm.trans hf)|>.symm
 obtain rfl:fn=Tryz.f4:=(Option.some.inj (Tryz.func4.symm.trans hfn)).symm
 refine⟨zBT,fun j t ht=>?_⟩
 rw[Tryz.params4]at ht
 have hm:t=26:=by simpa using Array.mem_of_getElem? ht
 rcases hm with rfl
 ·exact(show Tryz.prog.wantsStandIn 26=false by kernel_rfl)
theorem zsG (hT:Abs.zan Tryz.prog GA Rg3):Rows.ScopeMatchesSpecUptoCardSaid:=
 Claim7.holds_tied_plain_at .later [] _ _ _ _ (zui hT) (fun _ h=>by cases h) zJ9 (fun _ h=>by cases h) scopeMatchesSpecUpto_row_tie rfl ⟨rfl,rfl⟩ (by kernel_rfl) rfl zCR zBP
theorem scopeSpecCard:Rows.ScopeMatchesSpecUptoCardSaid:=zsG (zJY)
#print axioms scopeSpecCard
end Go.Proofs.YtmconmiemdinkaaGreatDoor
