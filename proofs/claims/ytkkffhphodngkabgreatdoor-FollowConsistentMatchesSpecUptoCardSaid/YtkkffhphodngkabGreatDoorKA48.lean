/- The verdict of Consistent is that of Ask with a goal that is never true (FollowConsistentMatchesSpec), for inputs within the bound of the statement's second form; no conditions. -/
import Derived.Test.YtkkffhphodngkabGreatDoorY12
import Derived.Test.YtkkffhphodngkabGreatDoorQ164
set_option maxRecDepth 100000
set_option linter.unusedSimpArgs false
namespace Go.Proofs.YtkkffhphodngkabGreatDoor
open Go Go.Abs Go.RowKit Go.WideShapes Go.ChangeShapes Go.ChangeAt
theorem zRP {W:World}(h:laidMet Tryz.prog Rows.followConsistentMatchesSpecUptoRow.laid W):∀g,GA g≠[]→g<W.heap.size∧∃cs T fr,W.heap[g]?=some (.cells cs T fr)∧cs.size=(GA g).length∧∀j,j<(GA g).length→∃v,cs[j]?=some v∧zbo W (zj7 W) v ((GA g).getD j .nilf):=
 zlw h (.tail _ (.tail _ (.tail _ (.head _)))) (.tail _ (.tail _ (.head _)))
theorem zRx (hT:zaq Tryz.prog GA T48)(H:Type)(en:TypeId×Value→H)(W:World)(base:Nat)(args:Array Value)(ds gs:List (DataW H))(before:List MemPlace)
  (hval:∀(j:Nat) t v,Tryz.f5.params[j]?=some t→args[j]?=some v→Value.okWide Tryz.prog W .any base t v)
  (hW:DataW.Whole en Tryz.prog Tryz.f5.params.toList Rows.followConsistentMatchesSpecSpec.vars false W args.toList ds gs before)
  (hglob:zj8 GA W (zj7 W))(hbk:Rows.uptoBulkAll ds≤1048576):
  Calls Tryz.prog 5 args W fun e W'=>∃v,e= .returned v∧Rows.followConsistentMatchesSpecSpec.post en Tryz.prog Tryz.f5 false true false false W args v W':=by
 have hW':=hW
 obtain⟨p,q,hA0,hV,rfl,hfz,hnd⟩:=hW
 have hA:DataW.TrodAll en Tryz.prog W 0 (fun _=>true) true Tryz.f5.params.toList args.toList ds p:=hA0
 rw[Tryz.params5]at hA hval
 obtain⟨v0,vs0,d0,ds0,p0,q0,hargs,rfl,rfl,h0,r0⟩:=trodAll_cons hA
 obtain⟨rfl,rfl,rfl⟩:=trodAll_nil r0
 obtain rfl:args= #[v0]:=by cases args;simp_all
 obtain⟨rfl,rfl⟩:=trodVars_none hV
 obtain⟨a0,len0,cap0,rfl⟩:=okWide_slice Tryz.underlying22 (hval 0 22 v0 rfl rfl)
 have h0k:=h0
 obtain⟨fuel0,hf0⟩:=h0
 clear hA0
 simp only[List.append_nil]at hW'
 have hlt:∀x∈p0,x.block<W.heap.size:=fun x hx=>by simpa using hW'.lt x (by simpa using hx)
 obtain⟨x0,l0⟩:=((zjv (α:=Abs.zac) zgt Tryz.underlying22 (by rw[show Tryz.prog.cellsOf 25=4 by kernel_rfl];decide) (zra)):RdN (SizeOf.sizeOf d0+1) (fun _ d=>Rows.uptoBulk d) Tryz.prog 22 (List Abs.zac)) hf0 (Nat.lt_succ_self _) (by simp only[Rows.uptoBulkAll]at hbk;show Rows.uptoBulk d0≤1048576;omega)
 have hrep0:zbo W (zj7 W) (.slice a0 len0 cap0) (enc x0):=l0.one_inv
 have hcall:=zjV (vs:=[(.slice a0 len0 cap0)]) (xs:=[enc x0]) (W:=W) (zRF hT x0 hrep0.wf) hglob rfl (fun j hj=>by
  have:j=0:=by simp at hj;omega
  rcases this with rfl
  ·exact hrep0)
 refine hcall.mono fun e W' ⟨he,hs⟩=>?_
 subst he
 have hb:Below W.heap.size W W':=⟨hs.os,hs.tape,hs.output,hs.size,hs.heap⟩
 refine⟨_,rfl,zlU (pa:=p0) (pv:=[]) hW' (fun _ _ _=>trodAll_cons_mk (shut_bool Tryz.underlying4 _) trodAll_mk0) (fun sp hsp=>?_) (fun _ _=>rfl) (by simp) hb (ok_one (by kernel_rfl) rfl (okWide_bool_mk Tryz.underlying4 _))⟩
 have hst0:DataW.Trod en Tryz.prog W' 0 sp true 22 (.slice a0 len0 cap0) d0 p0:=WideElems.Trod_stays zvi (by kernel_rfl) (of_decide_eq_true (by kernel_rfl)) h0k (fun x hx=>hb.same (hlt x (by simp[hx]))) (fun x hx=>hsp x (by simp[hx]))
 have:=trodAll_cons_mk hst0 (trodAll_mk0 (enc:=en) (P:=Tryz.prog) (w:=W') (base:=0) (spare:=sp) (held:=true))
 rw[List.append_nil]at this
 rw[Tryz.params5]
 exact this
theorem zRy (os:Os):laidMet Tryz.prog Rows.followConsistentMatchesSpecUptoRow.laid ((zja os).forCall (fun _ _=>0) ⟨#[], #[.slice none 0 0],[]⟩).memory:=
 laidMet_of_run' 8 (by kernel_rfl) (by kernel_rfl)
theorem zRK (os:Os){H:Type}(en:TypeId×Value→H):∃places,DataW.whole en Tryz.prog ((zja os).forCall (fun _ _=>0) ⟨#[], #[.slice none 0 0],[]⟩).memory Tryz.f5.params.toList Rows.followConsistentMatchesSpecSpec.vars false #[Value.slice none 0 0].toList 8=some ([.nil],[],places):=
 ⟨[],by kernel_rfl⟩
theorem zRu (hT:Abs.zaq Tryz.prog GA T48)(os:Os)(started:os.Started)(H:Type)(en:TypeId×Value→H)(F:Stop.Interp):
  ReturnsInHanded {} Tryz.checked os 5 .any ((Rows.OpenSpec.upto Rows.followConsistentMatchesSpecSpec).preRow en Tryz.prog Tryz.f5 Rows.followConsistentMatchesSpecUptoRow.domain false Rows.followConsistentMatchesSpecUptoRow.laid) (((Rows.OpenSpec.upto Rows.followConsistentMatchesSpecSpec).at F).post en Tryz.prog Tryz.f5 false true false false):=by
 obtain⟨places,hx⟩:=zRK os en
 refine returnsInHanded_of_row (C:=Tryz.checked) (s:=Rows.OpenSpec.upto Rows.followConsistentMatchesSpecSpec) own started (by kernel_rfl) Tryz.func5
  (witness_row_at (enc:=en) (C:=Tryz.checked) false (zja os) #[.slice none 0 0] rfl (by kernel_rfl) (by kernel_rfl) (by kernel_rfl)
   (OpenSpec.preRow_of_cond 8 hx (by kernel_rfl) (fun k hk=>by cases hk;kernel_rfl) (by kernel_rfl) (zRy os))) ?_
 intro W base args ds gs before hval hW _ hc _ hL _ _
 have hL':laidMet Tryz.prog Rows.followConsistentMatchesSpecUptoRow.laid W:=hL
 have hb:Rows.uptoBulkAll (ds++gs)≤1048576:=of_decide_eq_true (hc _ rfl)
 exact zRx hT H en W base args ds gs before hval hW (zsG (zRP hL')) (Nat.le_trans (zqo ds gs) hb)
theorem zRD:(Rows.followConsistentMatchesSpecUptoRow.inPlace==Tryz.pinned.checked.prog.inPlace 5)=true:=by kernel_rfl
theorem zRN:(Rows.followConsistentMatchesSpecUptoRow.unfollowed==Tryz.pinned.checked.prog.unfollowed 5)=true:=by kernel_rfl
theorem zRM:(Rows.followConsistentMatchesSpecUptoRow.recurses==Tryz.pinned.checked.prog.recurses 5)=true:=by kernel_rfl
theorem zRC:(Rows.followConsistentMatchesSpecUptoRow.named==Tryz.pinned.checked.prog.varsNamed 5)=true:=by kernel_rfl
theorem zRG:false=Rows.followConsistentMatchesSpecUptoRow.goesBy Tryz.pinned.checked.prog:=by kernel_rfl
theorem zRS:Rows.followConsistentMatchesSpecUptoRow.wfByText (Rows.OpenSpec.upto Rows.followConsistentMatchesSpecSpec)=true:=by kernel_rfl
theorem zRO:Tryz.pinned.checked.prog.funcNamed "glosswright/glosswrightlaw2.FollowConsistentMatchesSpec" =some 5:=by kernel_rfl
theorem zRE:joinedFacts Tryz.pinned.checked.prog 5 Tryz.f5 (Rows.OpenSpec.upto Rows.followConsistentMatchesSpecSpec).bare Rows.followConsistentMatchesSpecUptoRow=true:=by
 unfold joinedFacts
 exact(am (am (am (am (am (am (am (am (am (am (am (am (am (am (am (am (am (am (am (am (am (am (am (am (am (am (am (am (am (am (am (by kernel_rfl) zyk) zHU) (by kernel_rfl)) (by kernel_rfl)) (by kernel_rfl)) zDR) (by kernel_rfl)) zDO) zRD) zRN) zRM) zRC) (by kernel_rfl)) (by kernel_rfl)) (by kernel_rfl)) (by kernel_rfl)) (by kernel_rfl)) (by kernel_rfl)) (by kernel_rfl)) (by kernel_rfl)) (by kernel_rfl)) zHS) (by kernel_rfl)) zDN) zDL) zDP) zHT) (by kernel_rfl)) (by kernel_rfl)) (by kernel_rfl)) (by kernel_rfl))
theorem zRz (hT:Abs.zaq Tryz.prog GA T48):Rows.FollowConsistentMatchesSpecUptoSaid:=
 OpenClaim.holds_of_cond 5 Tryz.f5 rfl rfl rfl rfl rfl rfl rfl ⟨rfl,rfl,rfl,rfl,rfl⟩ rfl rfl rfl rfl rfl zRO Tryz.func5 zRE
  (of_decide_eq_true (by kernel_rfl)) (by unfold Func.isWrapper;first|(rw[if_pos (by decide+kernel)];kernel_rfl)|(rw[if_neg (by decide+kernel)];exact⟨rfl,rfl⟩))
  (fun os started H en _ F=>by rw[OpenClaim.pre_eq_preRow];exact zRu hT os started H en F)
theorem zRJ (f:FuncId)(fn:Func)(hf:Tryz.pinned.checked.prog.funcNamed "glosswright/glosswrightlaw2.FollowConsistentMatchesSpec" =some f)(hfn:Tryz.pinned.checked.prog.funcs[f]?=some fn):
  false=Tryz.pinned.checked.prog.looks []∧∀(j:Nat) t,fn.params[j]?=some t→Tryz.pinned.checked.prog.wantsStandIn t=false:=by
 obtain rfl:f=5:=Option.some.inj ((show Tryz.prog.funcNamed "glosswright/glosswrightlaw2.FollowConsistentMatchesSpec" =some 5 from zRO).symm.trans hf)|>.symm
 obtain rfl:fn=Tryz.f5:=(Option.some.inj (Tryz.func5.symm.trans hfn)).symm
 refine⟨zDQ,fun j t ht=>?_⟩
 rw[Tryz.params5]at ht
 have hm:t=22:=by simpa using Array.mem_of_getElem? ht
 rcases hm with rfl
 ·exact(show Tryz.prog.wantsStandIn 22=false by kernel_rfl)
theorem zRw (hT:Abs.zaq Tryz.prog GA T48):Rows.FollowConsistentMatchesSpecUptoCardSaid:=
 Claim7.holds_tied_plain_at .later [] _ _ _ _ (zRz hT) (fun _ h=>by cases h) zRS (fun _ h=>by cases h) followConsistentMatchesSpecUpto_row_tie rfl ⟨rfl,rfl⟩ (by kernel_rfl) rfl zRJ zRG
theorem consistentCard:Rows.FollowConsistentMatchesSpecUptoCardSaid:=zRw (zRR)
#print axioms consistentCard
end Go.Proofs.YtkkffhphodngkabGreatDoor
