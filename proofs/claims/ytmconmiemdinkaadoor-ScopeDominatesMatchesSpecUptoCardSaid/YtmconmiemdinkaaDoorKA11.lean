/- Dominates answers as the document says (ScopeDominatesMatchesSpec), for inputs within the bound of the statement's second form; no conditions. -/
import Derived.Test.YtmconmiemdinkaaDoorY11
import Derived.Test.YtmconmiemdinkaaDoorQ196
set_option maxRecDepth 100000
set_option linter.unusedSimpArgs false
namespace Go.Proofs.YtmconmiemdinkaaDoor
open Go Go.Abs Go.RowKit Go.WideShapes Go.ChangeShapes Go.ChangeAt
theorem zDA {W:World}(h:laidMet Tryd.prog Rows.scopeDominatesMatchesSpecUptoRow.laid W):∀g,GA g≠[]→g<W.heap.size∧∃cs T fr,W.heap[g]?=some (.cells cs T fr)∧cs.size=(GA g).length∧∀j,j<(GA g).length→∃v,cs[j]?=some v∧zbf W (zhY W) v ((GA g).getD j .nilf):=
 zjs h (.head _)
theorem zpA (hT:zam Tryd.prog GA Ss3)(H:Type)(en:TypeId×Value→H)(W:World)(base:Nat)(args:Array Value)(ds gs:List (DataW H))(before:List MemPlace)
  (hval:∀(j:Nat) t v,Tryd.f3.params[j]?=some t→args[j]?=some v→Value.okWide Tryd.prog W .any base t v)
  (hW:DataW.Whole en Tryd.prog Tryd.f3.params.toList Rows.scopeDominatesMatchesSpecSpec.vars false W args.toList ds gs before)
  (hglob:zh8 GA W (zhY W))(hbk:Rows.uptoBulkAll ds≤1048576):
  Calls Tryd.prog 3 args W fun e W'=>∃v,e= .returned v∧Rows.scopeDominatesMatchesSpecSpec.post en Tryd.prog Tryd.f3 false true false false W args v W':=by
 have hW':=hW
 obtain⟨p,q,hA0,hV,rfl,hfz,hnd⟩:=hW
 have hA:DataW.TrodAll en Tryd.prog W 0 (fun _=>true) true Tryd.f3.params.toList args.toList ds p:=hA0
 rw[Tryd.params3]at hA hval
 obtain⟨v0,vs0,d0,ds0,p0,q0,hargs,rfl,rfl,h0,r0⟩:=trodAll_cons hA
 obtain⟨v1,vs1,d1,ds1,p1,q1,rfl,rfl,rfl,h1,r1⟩:=trodAll_cons r0
 obtain⟨v2,vs2,d2,ds2,p2,q2,rfl,rfl,rfl,h2,r2⟩:=trodAll_cons r1
 obtain⟨rfl,rfl,rfl⟩:=trodAll_nil r2
 obtain rfl:args= #[v0,v1,v2]:=by cases args;simp_all
 obtain⟨rfl,rfl⟩:=trodVars_none hV
 obtain⟨n0,rfl,_⟩:=okWide_struct Tryd.underlying26 (hval 0 26 v0 rfl rfl)
 obtain⟨n1,rfl⟩:=okWide_string Tryd.underlying9 (hval 1 9 v1 rfl rfl)
 obtain⟨n2,rfl⟩:=okWide_string Tryd.underlying9 (hval 2 9 v2 rfl rfl)
 have h0k:=h0
 have h1k:=h1
 have h2k:=h2
 obtain⟨fuel0,hf0⟩:=h0
 obtain⟨fuel1,hf1⟩:=h1
 obtain⟨fuel2,hf2⟩:=h2
 clear hA0
 simp only[List.append_nil]at hW'
 have hlt:∀x∈p0++(p1++p2),x.block<W.heap.size:=fun x hx=>by simpa using hW'.lt x (by simpa using hx)
 obtain⟨x0,l0⟩:=((zox):RdN (SizeOf.sizeOf d0+1) (fun _ d=>Rows.uptoBulk d) Tryd.prog 26 Abs.zal) hf0 (Nat.lt_succ_self _) (by simp only[Rows.uptoBulkAll]at hbk;show Rows.uptoBulk d0≤1048576;omega)
 have hrep0:zbf W (zhY W) (.agg n0) (enc x0):=by have h:=l0.agg;rw[zcR]at h ⊢;exact h
 obtain⟨x1,l1⟩:=((RdN.of (zhC zbI Tryd.underlying9)):RdN (SizeOf.sizeOf d1+1) (fun _ d=>Rows.uptoBulk d) Tryd.prog 9 Str) hf1 (Nat.lt_succ_self _) (by simp only[Rows.uptoBulkAll]at hbk;show Rows.uptoBulk d1≤1048576;omega)
 have hrep1:zbf W (zhY W) (.string n1) (enc x1):=l1.one_inv
 obtain⟨x2,l2⟩:=((RdN.of (zhC zbI Tryd.underlying9)):RdN (SizeOf.sizeOf d2+1) (fun _ d=>Rows.uptoBulk d) Tryd.prog 9 Str) hf2 (Nat.lt_succ_self _) (by simp only[Rows.uptoBulkAll]at hbk;show Rows.uptoBulk d2≤1048576;omega)
 have hrep2:zbf W (zhY W) (.string n2) (enc x2):=l2.one_inv
 have hcall:=zh0 (vs:=[(.agg n0),(.string n1),(.string n2)]) (xs:=[enc x0,enc x1,enc x2]) (W:=W) (zxf hT x0 x1 x2 hrep0.wf hrep1.wf hrep2.wf) hglob rfl (fun j hj=>by
  have:j=0∨j=1∨j=2:=by simp at hj;omega
  rcases this with rfl|rfl|rfl
  ·exact hrep0
  ·exact hrep1
  ·exact hrep2)
 refine hcall.mono fun e W' ⟨he,hs⟩=>?_
 subst he
 have hb:Below W.heap.size W W':=⟨hs.os,hs.tape,hs.output,hs.size,hs.heap⟩
 refine⟨_,rfl,zjD (pa:=p0++(p1++p2)) (pv:=[]) hW' (fun _ _ _=>trodAll_cons_mk (shut_bool Tryd.underlying4 _) trodAll_mk0) (fun sp hsp=>?_) (fun _ _=>rfl) (by simp) hb (ok_one (by kernel_rfl) rfl (okWide_bool_mk Tryd.underlying4 _))⟩
 have hst0:DataW.Trod en Tryd.prog W' 0 sp true 26 (.agg n0) d0 p0:=WideElems.Trod_stays zmf (by kernel_rfl) (of_decide_eq_true (by kernel_rfl)) h0k (fun x hx=>hb.same (hlt x (by simp[hx]))) (fun x hx=>hsp x (by simp[hx]))
 have hst1:DataW.Trod en Tryd.prog W' 0 sp true 9 (.string n1) d1 p1:=WideElems.Trod_stays zmf (by kernel_rfl) (of_decide_eq_true (by kernel_rfl)) h1k (fun x hx=>hb.same (hlt x (by simp[hx]))) (fun x hx=>hsp x (by simp[hx]))
 have hst2:DataW.Trod en Tryd.prog W' 0 sp true 9 (.string n2) d2 p2:=WideElems.Trod_stays zmf (by kernel_rfl) (of_decide_eq_true (by kernel_rfl)) h2k (fun x hx=>hb.same (hlt x (by simp[hx]))) (fun x hx=>hsp x (by simp[hx]))
 have:=trodAll_cons_mk hst0 (trodAll_cons_mk hst1 (trodAll_cons_mk hst2 (trodAll_mk0 (enc:=en) (P:=Tryd.prog) (w:=W') (base:=0) (spare:=sp) (held:=true))))
 rw[List.append_nil]at this
 rw[Tryd.params3]
 exact this
theorem zqb (os:Os):laidMet Tryd.prog Rows.scopeDominatesMatchesSpecUptoRow.laid ((zhm os).forCall (fun _ _=>0) ⟨#[], #[.agg #[.slice none 0 0,.slice none 0 0,.slice none 0 0],.string ⟨#[]⟩,.string ⟨#[]⟩],[]⟩).memory:=
 laidMet_of_run' 8 (by kernel_rfl) (by kernel_rfl)
theorem zxA (os:Os){H:Type}(en:TypeId×Value→H):∃places,DataW.whole en Tryd.prog ((zhm os).forCall (fun _ _=>0) ⟨#[], #[.agg #[.slice none 0 0,.slice none 0 0,.slice none 0 0],.string ⟨#[]⟩,.string ⟨#[]⟩],[]⟩).memory Tryd.f3.params.toList Rows.scopeDominatesMatchesSpecSpec.vars false #[Value.agg #[.slice none 0 0,.slice none 0 0,.slice none 0 0],Value.string ⟨#[]⟩,Value.string ⟨#[]⟩].toList 8=some ([.agg [.nil,.nil,.nil],.lit (.string []),.lit (.string [])],[],places):=
 ⟨[],by kernel_rfl⟩
theorem zmg (hT:Abs.zam Tryd.prog GA Ss3)(os:Os)(started:os.Started)(H:Type)(en:TypeId×Value→H)(F:Stop.Interp):
  ReturnsInHanded {} Tryd.checked os 3 .any ((Rows.OpenSpec.upto Rows.scopeDominatesMatchesSpecSpec).preRow en Tryd.prog Tryd.f3 Rows.scopeDominatesMatchesSpecUptoRow.domain false Rows.scopeDominatesMatchesSpecUptoRow.laid) (((Rows.OpenSpec.upto Rows.scopeDominatesMatchesSpecSpec).at F).post en Tryd.prog Tryd.f3 false true false false):=by
 obtain⟨places,hx⟩:=zxA os en
 refine returnsInHanded_of_row (C:=Tryd.checked) (s:=Rows.OpenSpec.upto Rows.scopeDominatesMatchesSpecSpec) own started (by kernel_rfl) Tryd.func3
  (witness_row_at (enc:=en) (C:=Tryd.checked) false (zhm os) #[.agg #[.slice none 0 0,.slice none 0 0,.slice none 0 0],.string ⟨#[]⟩,.string ⟨#[]⟩] rfl (by kernel_rfl) (by kernel_rfl) (by kernel_rfl)
   (OpenSpec.preRow_of_cond 8 hx (by kernel_rfl) (fun k hk=>by cases hk;kernel_rfl) (by kernel_rfl) (zqb os))) ?_
 intro W base args ds gs before hval hW _ hc _ hL _ _
 have hL':laidMet Tryd.prog Rows.scopeDominatesMatchesSpecUptoRow.laid W:=hL
 have hb:Rows.uptoBulkAll (ds++gs)≤1048576:=of_decide_eq_true (hc _ rfl)
 exact zpA hT H en W base args ds gs before hval hW (zoj (zDA hL')) (Nat.le_trans (zmB ds gs) hb)
theorem zt9:(Rows.scopeDominatesMatchesSpecUptoRow.inPlace==Tryd.pinned.checked.prog.inPlace 3)=true:=by kernel_rfl
theorem zzT:(Rows.scopeDominatesMatchesSpecUptoRow.unfollowed==Tryd.pinned.checked.prog.unfollowed 3)=true:=by kernel_rfl
theorem zzS:(Rows.scopeDominatesMatchesSpecUptoRow.recurses==Tryd.pinned.checked.prog.recurses 3)=true:=by kernel_rfl
theorem zt8:(Rows.scopeDominatesMatchesSpecUptoRow.named==Tryd.pinned.checked.prog.varsNamed 3)=true:=by kernel_rfl
theorem zwx:false=Rows.scopeDominatesMatchesSpecUptoRow.goesBy Tryd.pinned.checked.prog:=by kernel_rfl
theorem zEf:Rows.scopeDominatesMatchesSpecUptoRow.wfByText (Rows.OpenSpec.upto Rows.scopeDominatesMatchesSpecSpec)=true:=by kernel_rfl
theorem zBG:Tryd.pinned.checked.prog.funcNamed "glosswright/glosswrightlaw2.ScopeDominatesMatchesSpec" =some 3:=by kernel_rfl
theorem zua:joinedFacts Tryd.pinned.checked.prog 3 Tryd.f3 (Rows.OpenSpec.upto Rows.scopeDominatesMatchesSpecSpec).bare Rows.scopeDominatesMatchesSpecUptoRow=true:=by
 unfold joinedFacts
 exact(am (am (am (am (am (am (am (am (am (am (am (am (am (am (am (am (am (am (am (am (am (am (am (am (am (am (am (am (am (am (am (by kernel_rfl) zr8) zzR) (by kernel_rfl)) (by kernel_rfl)) (by kernel_rfl)) zwC) (by kernel_rfl)) zwz) zt9) zzT) zzS) zt8) (by kernel_rfl)) (by kernel_rfl)) (by kernel_rfl)) (by kernel_rfl)) (by kernel_rfl)) (by kernel_rfl)) (by kernel_rfl)) (by kernel_rfl)) (by kernel_rfl)) zzP) (by kernel_rfl)) zwy) zww) zwA) zzQ) (by kernel_rfl)) (by kernel_rfl)) (by kernel_rfl)) (by kernel_rfl))
theorem zqF (hT:Abs.zam Tryd.prog GA Ss3):Rows.ScopeDominatesMatchesSpecUptoSaid:=
 OpenClaim.holds_of_cond 3 Tryd.f3 rfl rfl rfl rfl rfl rfl rfl ⟨rfl,rfl,rfl,rfl,rfl⟩ rfl rfl rfl rfl rfl zBG Tryd.func3 zua
  (of_decide_eq_true (by kernel_rfl)) (by unfold Func.isWrapper;first|(rw[if_pos (by decide+kernel)];kernel_rfl)|(rw[if_neg (by decide+kernel)];exact⟨rfl,rfl⟩))
  (fun os started H en _ F=>by rw[OpenClaim.pre_eq_preRow];exact zmg hT os started H en F)
theorem zxw (f:FuncId)(fn:Func)(hf:Tryd.pinned.checked.prog.funcNamed "glosswright/glosswrightlaw2.ScopeDominatesMatchesSpec" =some f)(hfn:Tryd.pinned.checked.prog.funcs[f]?=some fn):
  false=Tryd.pinned.checked.prog.looks []∧∀(j:Nat) t,fn.params[j]?=some t→Tryd.pinned.checked.prog.wantsStandIn t=false:=by
 obtain rfl:f=3:=Option.some.inj ((show Tryd.prog.funcNamed "glosswright/glosswrightlaw2.ScopeDominatesMatchesSpec" =some 3 from zBG).symm.trans hf)|>.symm
 obtain rfl:fn=Tryd.f3:=(Option.some.inj (Tryd.func3.symm.trans hfn)).symm
 refine⟨zwB,fun j t ht=>?_⟩
 rw[Tryd.params3]at ht
 have hm:t=26∨t=9∨t=9:=by simpa using Array.mem_of_getElem? ht
 rcases hm with rfl|rfl|rfl
 ·exact(show Tryd.prog.wantsStandIn 26=false by kernel_rfl)
 ·exact(show Tryd.prog.wantsStandIn 9=false by kernel_rfl)
 ·exact(show Tryd.prog.wantsStandIn 9=false by kernel_rfl)
theorem zpn (hT:Abs.zam Tryd.prog GA Ss3):Rows.ScopeDominatesMatchesSpecUptoCardSaid:=
 Claim7.holds_tied_plain_at .later [] _ _ _ _ (zqF hT) (fun _ h=>by cases h) zEf (fun _ h=>by cases h) scopeDominatesMatchesSpecUpto_row_tie rfl ⟨rfl,rfl⟩ (by kernel_rfl) rfl zxw zwx
theorem dominatesCard:Rows.ScopeDominatesMatchesSpecUptoCardSaid:=zpn (zD9)
#print axioms dominatesCard
end Go.Proofs.YtmconmiemdinkaaDoor
