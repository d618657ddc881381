/- What is proved is not refuted with one axiom more (FollowMoreAxioms), for inputs within the bound of the statement's second form; no conditions. -/
import Derived.Test.YtkkffhphodngkabGreatDoorY12
import Derived.Test.YtkkffhphodngkabGreatDoorPRL
import Derived.Test.YtkkffhphodngkabGreatDoorQ163
set_option maxRecDepth 100000
set_option linter.unusedSimpArgs false
namespace Go.Proofs.YtkkffhphodngkabGreatDoor
open Go Go.Abs Go.RowKit Go.WideShapes Go.ChangeShapes Go.ChangeAt
theorem zRM {W:World}(h:laidMet Tryz.prog Rows.followMoreAxiomsUptoRow.laid W):∀g,GA g≠[]→g<W.heap.size∧∃cs T fr,W.heap[g]?=some (.cells cs T fr)∧cs.size=(GA g).length∧∀j,j<(GA g).length→∃v,cs[j]?=some v∧zbo W (zj7 W) v ((GA g).getD j .nilf):=
 zlw h (.tail _ (.tail _ (.tail _ (.head _)))) (.tail _ (.tail _ (.head _)))
theorem zRC (hT:Abs.zaq Tryz.prog GA Fo1)(ax:zRA Abs.zac)(f g:Abs.zac)(h1:(enc ax).Wf)(h2:(enc f).Wf)(h3:(enc g).Wf):zaw Tryz.prog GA 4 [.fz (enc ax),.fz (enc f),.fz (enc g)] (hpL []) 0 (fun d _ _=>d= .fz (.b true)):=zRB hT ax.1 ax.2 f g h1 h2 h3
theorem zRx (hT:zaq Tryz.prog GA Fo1)(H:Type)(en:TypeId×Value→H)(W:World)(base:Nat)(args:Array Value)(ds gs:List (DataW H))(before:List MemPlace)
  (hval:∀(j:Nat) t v,Tryz.f4.params[j]?=some t→args[j]?=some v→Value.okWide Tryz.prog W .any base t v)
  (hW:DataW.Whole en Tryz.prog Tryz.f4.params.toList Rows.followMoreAxiomsSpec.vars false W args.toList ds gs before)
  (hglob:zj8 GA W (zj7 W))(hbk:Rows.uptoBulkAll ds≤1048576):
  Calls Tryz.prog 4 args W fun e W'=>∃v,e= .returned v∧Rows.followMoreAxiomsSpec.post en Tryz.prog Tryz.f4 false true false false W args v W':=by
 have hW':=hW
 obtain⟨p,q,hA0,hV,rfl,hfz,hnd⟩:=hW
 have hA:DataW.TrodAll en Tryz.prog W 0 (fun _=>true) true Tryz.f4.params.toList args.toList ds p:=hA0
 rw[Tryz.params4]at hA hval
 obtain⟨v0,vs0,d0,ds0,p0,q0,hargs,rfl,rfl,h0,r0⟩:=trodAll_cons hA
 obtain⟨v1,vs1,d1,ds1,p1,q1,rfl,rfl,rfl,h1,r1⟩:=trodAll_cons r0
 obtain⟨v2,vs2,d2,ds2,p2,q2,rfl,rfl,rfl,h2,r2⟩:=trodAll_cons r1
 obtain⟨rfl,rfl,rfl⟩:=trodAll_nil r2
 obtain rfl:args= #[v0,v1,v2]:=by cases args;simp_all
 obtain⟨rfl,rfl⟩:=trodVars_none hV
 obtain⟨a0,len0,cap0,rfl⟩:=okWide_slice Tryz.underlying22 (hval 0 22 v0 rfl rfl)
 obtain⟨n1,rfl,_⟩:=okWide_struct Tryz.underlying25 (hval 1 25 v1 rfl rfl)
 obtain⟨n2,rfl,_⟩:=okWide_struct Tryz.underlying25 (hval 2 25 v2 rfl rfl)
 have h0k:=h0
 have h1k:=h1
 have h2k:=h2
 obtain⟨fuel0,hf0⟩:=h0
 obtain⟨fuel1,hf1⟩:=h1
 obtain⟨fuel2,hf2⟩:=h2
 clear hA0
 simp only[List.append_nil]at hW'
 have hlt:∀x∈p0++(p1++p2),x.block<W.heap.size:=fun x hx=>by simpa using hW'.lt x (by simpa using hx)
 obtain⟨x0,l0⟩:=((zRv (α:=Abs.zac) zgt Tryz.underlying22 (by rw[show Tryz.prog.cellsOf 25=4 by kernel_rfl];decide) (zra)):RdN (SizeOf.sizeOf d0+1) (fun _ d=>Rows.uptoBulk d) Tryz.prog 22 (zRA Abs.zac)) hf0 (Nat.lt_succ_self _) (by simp only[Rows.uptoBulkAll]at hbk;show Rows.uptoBulk d0≤1048576;omega)
 have hrep0:zbo W (zj7 W) (.slice a0 len0 cap0) (enc x0):=l0.one_inv
 obtain⟨x1,l1⟩:=((zra):RdN (SizeOf.sizeOf d1+1) (fun _ d=>Rows.uptoBulk d) Tryz.prog 25 Abs.zac) hf1 (Nat.lt_succ_self _) (by simp only[Rows.uptoBulkAll]at hbk;show Rows.uptoBulk d1≤1048576;omega)
 have hrep1:zbo W (zj7 W) (.agg n1) (enc x1):=by have h:=l1.agg;rw[zaE]at h ⊢;exact h
 obtain⟨x2,l2⟩:=((zra):RdN (SizeOf.sizeOf d2+1) (fun _ d=>Rows.uptoBulk d) Tryz.prog 25 Abs.zac) hf2 (Nat.lt_succ_self _) (by simp only[Rows.uptoBulkAll]at hbk;show Rows.uptoBulk d2≤1048576;omega)
 have hrep2:zbo W (zj7 W) (.agg n2) (enc x2):=by have h:=l2.agg;rw[zaE]at h ⊢;exact h
 have hcall:=zjV (vs:=[(.slice a0 len0 cap0),(.agg n1),(.agg n2)]) (xs:=[enc x0,enc x1,enc x2]) (W:=W) (zRC hT x0 x1 x2 hrep0.wf hrep1.wf hrep2.wf) hglob rfl (fun j hj=>by
  have:j=0∨j=1∨j=2:=by simp at hj;omega
  rcases this with rfl|rfl|rfl
  ·exact hrep0
  ·exact hrep1
  ·exact hrep2)
 refine hcall.mono fun e W' ⟨he,hs⟩=>?_
 subst he
 have hb:Below W.heap.size W W':=⟨hs.os,hs.tape,hs.output,hs.size,hs.heap⟩
 refine⟨_,rfl,zlU (pa:=p0++(p1++p2)) (pv:=[]) hW' (fun _ _ _=>trodAll_cons_mk (shut_bool Tryz.underlying4 _) trodAll_mk0) (fun sp hsp=>?_) (fun _ _=>rfl) (by simp) hb (ok_one (by kernel_rfl) rfl (okWide_bool_mk Tryz.underlying4 _))⟩
 have hst0:DataW.Trod en Tryz.prog W' 0 sp true 22 (.slice a0 len0 cap0) d0 p0:=WideElems.Trod_stays zvi (by kernel_rfl) (of_decide_eq_true (by kernel_rfl)) h0k (fun x hx=>hb.same (hlt x (by simp[hx]))) (fun x hx=>hsp x (by simp[hx]))
 have hst1:DataW.Trod en Tryz.prog W' 0 sp true 25 (.agg n1) d1 p1:=WideElems.Trod_stays zvi (by kernel_rfl) (of_decide_eq_true (by kernel_rfl)) h1k (fun x hx=>hb.same (hlt x (by simp[hx]))) (fun x hx=>hsp x (by simp[hx]))
 have hst2:DataW.Trod en Tryz.prog W' 0 sp true 25 (.agg n2) d2 p2:=WideElems.Trod_stays zvi (by kernel_rfl) (of_decide_eq_true (by kernel_rfl)) h2k (fun x hx=>hb.same (hlt x (by simp[hx]))) (fun x hx=>hsp x (by simp[hx]))
 have:=trodAll_cons_mk hst0 (trodAll_cons_mk hst1 (trodAll_cons_mk hst2 (trodAll_mk0 (enc:=en) (P:=Tryz.prog) (w:=W') (base:=0) (spare:=sp) (held:=true))))
 rw[List.append_nil]at this
 rw[Tryz.params4]
 exact this
theorem zRy (os:Os):laidMet Tryz.prog Rows.followMoreAxiomsUptoRow.laid ((zja os).forCall (fun _ _=>0) ⟨#[], #[.slice none 0 0,.agg #[.int .i64 0,.string ⟨#[]⟩,.slice none 0 0,.slice none 0 0],.agg #[.int .i64 0,.string ⟨#[]⟩,.slice none 0 0,.slice none 0 0]],[]⟩).memory:=
 laidMet_of_run' 8 (by kernel_rfl) (by kernel_rfl)
theorem zRI (os:Os){H:Type}(en:TypeId×Value→H):∃places,DataW.whole en Tryz.prog ((zja os).forCall (fun _ _=>0) ⟨#[], #[.slice none 0 0,.agg #[.int .i64 0,.string ⟨#[]⟩,.slice none 0 0,.slice none 0 0],.agg #[.int .i64 0,.string ⟨#[]⟩,.slice none 0 0,.slice none 0 0]],[]⟩).memory Tryz.f4.params.toList Rows.followMoreAxiomsSpec.vars false #[Value.slice none 0 0,Value.agg #[.int .i64 0,.string ⟨#[]⟩,.slice none 0 0,.slice none 0 0],Value.agg #[.int .i64 0,.string ⟨#[]⟩,.slice none 0 0,.slice none 0 0]].toList 8=some ([.nil,.agg [.lit (.int .i64 0),.lit (.string []),.nil,.nil],.agg [.lit (.int .i64 0),.lit (.string []),.nil,.nil]],[],places):=
 ⟨[],by kernel_rfl⟩
theorem zRu (hT:Abs.zaq Tryz.prog GA Fo1)(os:Os)(started:os.Started)(H:Type)(en:TypeId×Value→H)(F:Stop.Interp):
  ReturnsInHanded {} Tryz.checked os 4 .any ((Rows.OpenSpec.upto Rows.followMoreAxiomsSpec).preRow en Tryz.prog Tryz.f4 Rows.followMoreAxiomsUptoRow.domain false Rows.followMoreAxiomsUptoRow.laid) (((Rows.OpenSpec.upto Rows.followMoreAxiomsSpec).at F).post en Tryz.prog Tryz.f4 false true false false):=by
 obtain⟨places,hx⟩:=zRI os en
 refine returnsInHanded_of_row (C:=Tryz.checked) (s:=Rows.OpenSpec.upto Rows.followMoreAxiomsSpec) own started (by kernel_rfl) Tryz.func4
  (witness_row_at (enc:=en) (C:=Tryz.checked) false (zja os) #[.slice none 0 0,.agg #[.int .i64 0,.string ⟨#[]⟩,.slice none 0 0,.slice none 0 0],.agg #[.int .i64 0,.string ⟨#[]⟩,.slice none 0 0,.slice none 0 0]] rfl (by kernel_rfl) (by kernel_rfl) (by kernel_rfl)
   (OpenSpec.preRow_of_cond 8 hx (by kernel_rfl) (fun k hk=>by cases hk;kernel_rfl) (by kernel_rfl) (zRy os))) ?_
 intro W base args ds gs before hval hW _ hc _ hL _ _
 have hL':laidMet Tryz.prog Rows.followMoreAxiomsUptoRow.laid W:=hL
 have hb:Rows.uptoBulkAll (ds++gs)≤1048576:=of_decide_eq_true (hc _ rfl)
 exact zRx hT H en W base args ds gs before hval hW (zsG (zRM hL')) (Nat.le_trans (zqo ds gs) hb)
theorem zRE:(Rows.followMoreAxiomsUptoRow.inPlace==Tryz.pinned.checked.prog.inPlace 4)=true:=by kernel_rfl
theorem zRK:(Rows.followMoreAxiomsUptoRow.unfollowed==Tryz.pinned.checked.prog.unfollowed 4)=true:=by kernel_rfl
theorem zRJ:(Rows.followMoreAxiomsUptoRow.recurses==Tryz.pinned.checked.prog.recurses 4)=true:=by kernel_rfl
theorem zRD:(Rows.followMoreAxiomsUptoRow.named==Tryz.pinned.checked.prog.varsNamed 4)=true:=by kernel_rfl
theorem zRG:false=Rows.followMoreAxiomsUptoRow.goesBy Tryz.pinned.checked.prog:=by kernel_rfl
theorem zRN:Rows.followMoreAxiomsUptoRow.wfByText (Rows.OpenSpec.upto Rows.followMoreAxiomsSpec)=true:=by kernel_rfl
theorem zRL:Tryz.pinned.checked.prog.funcNamed "glosswright/glosswrightlaw2.FollowMoreAxioms" =some 4:=by kernel_rfl
theorem zRF:joinedFacts Tryz.pinned.checked.prog 4 Tryz.f4 (Rows.OpenSpec.upto Rows.followMoreAxiomsSpec).bare Rows.followMoreAxiomsUptoRow=true:=by
 unfold joinedFacts
 exact(am (am (am (am (am (am (am (am (am (am (am (am (am (am (am (am (am (am (am (am (am (am (am (am (am (am (am (am (am (am (am (by kernel_rfl) zyk) zHU) (by kernel_rfl)) (by kernel_rfl)) (by kernel_rfl)) zDR) (by kernel_rfl)) zDO) zRE) zRK) zRJ) zRD) (by kernel_rfl)) (by kernel_rfl)) (by kernel_rfl)) (by kernel_rfl)) (by kernel_rfl)) (by kernel_rfl)) (by kernel_rfl)) (by kernel_rfl)) (by kernel_rfl)) zHS) (by kernel_rfl)) zDN) zDL) zDP) zHT) (by kernel_rfl)) (by kernel_rfl)) (by kernel_rfl)) (by kernel_rfl))
theorem zRz (hT:Abs.zaq Tryz.prog GA Fo1):Rows.FollowMoreAxiomsUptoSaid:=
 OpenClaim.holds_of_cond 4 Tryz.f4 rfl rfl rfl rfl rfl rfl rfl ⟨rfl,rfl,rfl,rfl,rfl⟩ rfl rfl rfl rfl rfl zRL Tryz.func4 zRF
  (of_decide_eq_true (by kernel_rfl)) (by unfold Func.isWrapper;first|(rw[if_pos (by decide+kernel)];kernel_rfl)|(rw[if_neg (by decide+kernel)];exact⟨rfl,rfl⟩))
  (fun os started H en _ F=>by rw[OpenClaim.pre_eq_preRow];exact zRu hT os started H en F)
theorem zRH (f:FuncId)(fn:Func)(hf:Tryz.pinned.checked.prog.funcNamed "glosswright/glosswrightlaw2.FollowMoreAxioms" =some f)(hfn:Tryz.pinned.checked.prog.funcs[f]?=some fn):
  false=Tryz.pinned.checked.prog.looks []∧∀(j:Nat) t,fn.params[j]?=some t→Tryz.pinned.checked.prog.wantsStandIn t=false:=by
 obtain rfl:f=4:=Option.some.inj ((show Tryz.prog.funcNamed "glosswright/glosswrightlaw2.FollowMoreAxioms" =some 4 from zRL).symm.trans hf)|>.symm
 obtain rfl:fn=Tryz.f4:=(Option.some.inj (Tryz.func4.symm.trans hfn)).symm
 refine⟨zDQ,fun j t ht=>?_⟩
 rw[Tryz.params4]at ht
 have hm:t=22∨t=25∨t=25:=by simpa using Array.mem_of_getElem? ht
 rcases hm with rfl|rfl|rfl
 ·exact(show Tryz.prog.wantsStandIn 22=false by kernel_rfl)
 ·exact(show Tryz.prog.wantsStandIn 25=false by kernel_rfl)
 ·exact(show Tryz.prog.wantsStandIn 25=false by kernel_rfl)
theorem zRw (hT:Abs.zaq Tryz.prog GA Fo1):Rows.FollowMoreAxiomsUptoCardSaid:=
 Claim7.holds_tied_plain_at .later [] _ _ _ _ (zRz hT) (fun _ h=>by cases h) zRN (fun _ h=>by cases h) followMoreAxiomsUpto_row_tie rfl ⟨rfl,rfl⟩ (by kernel_rfl) rfl zRH zRG
theorem moreAxiomsCard:Rows.FollowMoreAxiomsUptoCardSaid:=zRw (zKa)
#print axioms moreAxiomsCard
end Go.Proofs.YtkkffhphodngkabGreatDoor
