/- A formula without quantifiers, with three constants at most, is proved just if its negation has no model of up to three individuals (FinderAgreesWithTableau), for inputs within the bound of the statement's second form; no conditions. -/
import Derived.Test.YtkkffhphodngkaaGreatDoorY12
import Derived.Test.YtkkffhphodngkaaGreatDoorY23
set_option maxRecDepth 100000
set_option linter.unusedSimpArgs false
namespace Go.Proofs.YtkkffhphodngkaaGreatDoor
open Go Go.Abs Go.RowKit Go.WideShapes Go.ChangeShapes Go.ChangeAt
theorem zKT {W:World}(h:laidMet Tryz.prog Rows.finderAgreesWithTableauUptoRow.laid W):∀g,GA g≠[]→g<W.heap.size∧∃cs T fr,W.heap[g]?=some (.cells cs T fr)∧cs.size=(GA g).length∧∀j,j<(GA g).length→∃v,cs[j]?=some v∧zbp W (zlS W) v ((GA g).getD j .nilf):=
 zkY h (.tail _ (.tail _ (.tail _ (.head _)))) (.tail _ (.tail _ (.head _)))
theorem ztH (hT:zan Tryz.prog GA Op1)(H:Type)(en:TypeId×Value→H)(W:World)(base:Nat)(args:Array Value)(ds gs:List (DataW H))(before:List MemPlace)
  (hval:∀(j:Nat) t v,Tryz.f3.params[j]?=some t→args[j]?=some v→Value.okWide Tryz.prog W .any base t v)
  (hW:DataW.Whole en Tryz.prog Tryz.f3.params.toList Rows.finderAgreesWithTableauSpec.vars false W args.toList ds gs before)
  (hglob:zjv GA W (zlS W))(hbk:Rows.uptoBulkAll ds≤1048576):
  Calls Tryz.prog 3 args W fun e W'=>∃v,e= .returned v∧Rows.finderAgreesWithTableauSpec.post en Tryz.prog Tryz.f3 false true false false W args v W':=by
 have hW':=hW
 obtain⟨p,q,hA0,hV,rfl,hfz,hnd⟩:=hW
 have hA:DataW.TrodAll en Tryz.prog W 0 (fun _=>true) true Tryz.f3.params.toList args.toList ds p:=hA0
 rw[Tryz.params3]at hA hval
 obtain⟨v0,vs0,d0,ds0,p0,q0,hargs,rfl,rfl,h0,r0⟩:=trodAll_cons hA
 obtain⟨rfl,rfl,rfl⟩:=trodAll_nil r0
 obtain rfl:args= #[v0]:=by cases args;simp_all
 obtain⟨rfl,rfl⟩:=trodVars_none hV
 obtain⟨n0,rfl,_⟩:=okWide_struct Tryz.underlying25 (hval 0 25 v0 rfl rfl)
 have h0k:=h0
 obtain⟨fuel0,hf0⟩:=h0
 clear hA0
 simp only[List.append_nil]at hW'
 have hlt:∀x∈p0,x.block<W.heap.size:=fun x hx=>by simpa using hW'.lt x (by simpa using hx)
 obtain⟨x0,l0⟩:=((zxV):RdN (SizeOf.sizeOf d0+1) (fun _ d=>Rows.uptoBulk d) Tryz.prog 25 Abs.zab) hf0 (Nat.lt_succ_self _) (by simp only[Rows.uptoBulkAll]at hbk;show Rows.uptoBulk d0≤1048576;omega)
 have hrep0:zbp W (zlS W) (.agg n0) (enc x0):=by have h:=l0.agg;rw[zaI]at h ⊢;exact h
 have hcall:=zjk (vs:=[(.agg n0)]) (xs:=[enc x0]) (W:=W) (zxq hT x0 hrep0.wf) hglob rfl (fun j hj=>by
  have:j=0:=by simp at hj;omega
  rcases this with rfl
  ·exact hrep0)
 refine hcall.mono fun e W' ⟨he,hs⟩=>?_
 subst he
 have hb:Below W.heap.size W W':=⟨hs.os,hs.tape,hs.output,hs.size,hs.heap⟩
 refine⟨_,rfl,zlk (pa:=p0) (pv:=[]) hW' (fun _ _ _=>trodAll_cons_mk (shut_bool Tryz.underlying4 _) trodAll_mk0) (fun sp hsp=>?_) (fun _ _=>rfl) (by simp) hb (ok_one (by kernel_rfl) rfl (okWide_bool_mk Tryz.underlying4 _))⟩
 have hst0:DataW.Trod en Tryz.prog W' 0 sp true 25 (.agg n0) d0 p0:=WideElems.Trod_stays zAo (by kernel_rfl) (of_decide_eq_true (by kernel_rfl)) h0k (fun x hx=>hb.same (hlt x (by simp[hx]))) (fun x hx=>hsp x (by simp[hx]))
 have:=trodAll_cons_mk hst0 (trodAll_mk0 (enc:=en) (P:=Tryz.prog) (w:=W') (base:=0) (spare:=sp) (held:=true))
 rw[List.append_nil]at this
 rw[Tryz.params3]
 exact this
theorem zuq (os:Os):laidMet Tryz.prog Rows.finderAgreesWithTableauUptoRow.laid ((ziB os).forCall (fun _ _=>0) ⟨#[], #[.agg #[.int .i64 0,.string ⟨#[]⟩,.slice none 0 0,.slice none 0 0]],[]⟩).memory:=
 laidMet_of_run' 8 (by kernel_rfl) (by kernel_rfl)
theorem zDX (os:Os){H:Type}(en:TypeId×Value→H):∃places,DataW.whole en Tryz.prog ((ziB os).forCall (fun _ _=>0) ⟨#[], #[.agg #[.int .i64 0,.string ⟨#[]⟩,.slice none 0 0,.slice none 0 0]],[]⟩).memory Tryz.f3.params.toList Rows.finderAgreesWithTableauSpec.vars false #[Value.agg #[.int .i64 0,.string ⟨#[]⟩,.slice none 0 0,.slice none 0 0]].toList 8=some ([.agg [.lit (.int .i64 0),.lit (.string []),.nil,.nil]],[],places):=
 ⟨[],by kernel_rfl⟩
theorem zoX (hT:Abs.zan Tryz.prog GA Op1)(os:Os)(started:os.Started)(H:Type)(en:TypeId×Value→H)(F:Stop.Interp):
  ReturnsInHanded {} Tryz.checked os 3 .any ((Rows.OpenSpec.upto Rows.finderAgreesWithTableauSpec).preRow en Tryz.prog Tryz.f3 Rows.finderAgreesWithTableauUptoRow.domain false Rows.finderAgreesWithTableauUptoRow.laid) (((Rows.OpenSpec.upto Rows.finderAgreesWithTableauSpec).at F).post en Tryz.prog Tryz.f3 false true false false):=by
 obtain⟨places,hx⟩:=zDX os en
 refine returnsInHanded_of_row (C:=Tryz.checked) (s:=Rows.OpenSpec.upto Rows.finderAgreesWithTableauSpec) own started (by kernel_rfl) Tryz.func3
  (witness_row_at (enc:=en) (C:=Tryz.checked) false (ziB os) #[.agg #[.int .i64 0,.string ⟨#[]⟩,.slice none 0 0,.slice none 0 0]] rfl (by kernel_rfl) (by kernel_rfl) (by kernel_rfl)
   (OpenSpec.preRow_of_cond 8 hx (by kernel_rfl) (fun k hk=>by cases hk;kernel_rfl) (by kernel_rfl) (zuq os))) ?_
 intro W base args ds gs before hval hW _ hc _ hL _ _
 have hL':laidMet Tryz.prog Rows.finderAgreesWithTableauUptoRow.laid W:=hL
 have hb:Rows.uptoBulkAll (ds++gs)≤1048576:=of_decide_eq_true (hc _ rfl)
 exact ztH hT H en W base args ds gs before hval hW (zrW (zKT hL')) (Nat.le_trans (zpB ds gs) hb)
theorem zz8:(Rows.finderAgreesWithTableauUptoRow.inPlace==Tryz.pinned.checked.prog.inPlace 3)=true:=by kernel_rfl
theorem zGr:(Rows.finderAgreesWithTableauUptoRow.unfollowed==Tryz.pinned.checked.prog.unfollowed 3)=true:=by kernel_rfl
theorem zGq:(Rows.finderAgreesWithTableauUptoRow.recurses==Tryz.pinned.checked.prog.recurses 3)=true:=by kernel_rfl
theorem zz7:(Rows.finderAgreesWithTableauUptoRow.named==Tryz.pinned.checked.prog.varsNamed 3)=true:=by kernel_rfl
theorem zCK:false=Rows.finderAgreesWithTableauUptoRow.goesBy Tryz.pinned.checked.prog:=by kernel_rfl
theorem zLh:Rows.finderAgreesWithTableauUptoRow.wfByText (Rows.OpenSpec.upto Rows.finderAgreesWithTableauSpec)=true:=by kernel_rfl
theorem zIK:Tryz.pinned.checked.prog.funcNamed "glosswright/glosswrightlaw2.FinderAgreesWithTableau" =some 3:=by kernel_rfl
theorem zz9:joinedFacts Tryz.pinned.checked.prog 3 Tryz.f3 (Rows.OpenSpec.upto Rows.finderAgreesWithTableauSpec).bare Rows.finderAgreesWithTableauUptoRow=true:=by
 unfold joinedFacts
 exact(am (am (am (am (am (am (am (am (am (am (am (am (am (am (am (am (am (am (am (am (am (am (am (am (am (am (am (am (am (am (am (by kernel_rfl) zxi) zGp) (by kernel_rfl)) (by kernel_rfl)) (by kernel_rfl)) zCP) (by kernel_rfl)) zCM) zz8) zGr) zGq) zz7) (by kernel_rfl)) (by kernel_rfl)) (by kernel_rfl)) (by kernel_rfl)) (by kernel_rfl)) (by kernel_rfl)) (by kernel_rfl)) (by kernel_rfl)) (by kernel_rfl)) zGn) (by kernel_rfl)) zCL) zCJ) zCN) zGo) (by kernel_rfl)) (by kernel_rfl)) (by kernel_rfl)) (by kernel_rfl))
theorem zvb (hT:Abs.zan Tryz.prog GA Op1):Rows.FinderAgreesWithTableauUptoSaid:=
 OpenClaim.holds_of_cond 3 Tryz.f3 rfl rfl rfl rfl rfl rfl rfl ⟨rfl,rfl,rfl,rfl,rfl⟩ rfl rfl rfl rfl rfl zIK Tryz.func3 zz9
  (of_decide_eq_true (by kernel_rfl)) (by unfold Func.isWrapper;first|(rw[if_pos (by decide+kernel)];kernel_rfl)|(rw[if_neg (by decide+kernel)];exact⟨rfl,rfl⟩))
  (fun os started H en _ F=>by rw[OpenClaim.pre_eq_preRow];exact zoX hT os started H en F)
theorem zDR (f:FuncId)(fn:Func)(hf:Tryz.pinned.checked.prog.funcNamed "glosswright/glosswrightlaw2.FinderAgreesWithTableau" =some f)(hfn:Tryz.pinned.checked.prog.funcs[f]?=some fn):
  false=Tryz.pinned.checked.prog.looks []∧∀(j:Nat) t,fn.params[j]?=some t→Tryz.pinned.checked.prog.wantsStandIn t=false:=by
 obtain rfl:f=3:=Option.some.inj ((show Tryz.prog.funcNamed "glosswright/glosswrightlaw2.FinderAgreesWithTableau" =some 3 from zIK).symm.trans hf)|>.symm
 obtain rfl:fn=Tryz.f3:=(Option.some.inj (Tryz.func3.symm.trans hfn)).symm
 refine⟨zCO,fun j t ht=>?_⟩
 rw[Tryz.params3]at ht
 have hm:t=25:=by simpa using Array.mem_of_getElem? ht
 rcases hm with rfl
 ·exact(show Tryz.prog.wantsStandIn 25=false by kernel_rfl)
theorem ztl (hT:Abs.zan Tryz.prog GA Op1):Rows.FinderAgreesWithTableauUptoCardSaid:=
 Claim7.holds_tied_plain_at .later [] _ _ _ _ (zvb hT) (fun _ h=>by cases h) zLh (fun _ h=>by cases h) finderAgreesWithTableauUpto_row_tie rfl ⟨rfl,rfl⟩ (by kernel_rfl) rfl zDR zCK
theorem agreesCard:Rows.FinderAgreesWithTableauUptoCardSaid:=ztl (zLa)
#print axioms agreesCard
end Go.Proofs.YtkkffhphodngkaaGreatDoor
