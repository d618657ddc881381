/- Resolve answers as the document says (DiscourseResolveMatchesSpec), for inputs within the bound of the statement's second form; no conditions. -/
import Derived.Test.YtalbdmcklgglbaaDoorY15
import Derived.Test.YtalbdmcklgglbaaDoorY25
set_option maxRecDepth 100000
set_option linter.unusedSimpArgs false
namespace Go.Proofs.YtalbdmcklgglbaaDoor
open Go Go.Abs Go.RowKit Go.WideShapes Go.ChangeShapes Go.ChangeAt
theorem zJv {W:World}(h:laidMet Tryd.prog Rows.discourseResolveMatchesSpecUptoRow.laid W):∀g,GA g≠[]→g<W.heap.size∧∃cs T fr,W.heap[g]?=some (.cells cs T fr)∧cs.size=(GA g).length∧∀j,j<(GA g).length→∃v,cs[j]?=some v∧zbn W (zkd W) v ((GA g).getD j .nilf):=
 zjw h (.head _)
theorem zJj (hT:zan Tryd.prog GA Y0)(H:Type)(en:TypeId×Value→H)(W:World)(base:Nat)(args:Array Value)(ds gs:List (DataW H))(before:List MemPlace)
  (hval:∀(j:Nat) t v,Tryd.f3.params[j]?=some t→args[j]?=some v→Value.okWide Tryd.prog W .any base t v)
  (hW:DataW.Whole en Tryd.prog Tryd.f3.params.toList Rows.discourseResolveMatchesSpecSpec.vars false W args.toList ds gs before)
  (hglob:zik GA W (zkd W))(hbk:Rows.uptoBulkAll ds≤1048576):
  Calls Tryd.prog 3 args W fun e W'=>∃v,e= .returned v∧Rows.discourseResolveMatchesSpecSpec.post en Tryd.prog Tryd.f3 false true false false W args v W':=by
 have hW':=hW
 obtain⟨p,q,hA0,hV,rfl,hfz,hnd⟩:=hW
 have hA:DataW.TrodAll en Tryd.prog W 0 (fun _=>true) true Tryd.f3.params.toList args.toList ds p:=hA0
 rw[Tryd.params3]at hA hval
 obtain⟨v0,vs0,d0,ds0,p0,q0,hargs,rfl,rfl,h0,r0⟩:=trodAll_cons hA
 obtain⟨rfl,rfl,rfl⟩:=trodAll_nil r0
 obtain rfl:args= #[v0]:=by cases args;simp_all
 obtain⟨rfl,rfl⟩:=trodVars_none hV
 obtain⟨n0,rfl,_⟩:=okWide_struct Tryd.underlying25 (hval 0 25 v0 rfl rfl)
 have h0k:=h0
 obtain⟨fuel0,hf0⟩:=h0
 clear hA0
 simp only[List.append_nil]at hW'
 have hlt:∀x∈p0,x.block<W.heap.size:=fun x hx=>by simpa using hW'.lt x (by simpa using hx)
 obtain⟨x0,l0⟩:=((zwz):RdN (SizeOf.sizeOf d0+1) (fun _ d=>Rows.uptoBulk d) Tryd.prog 25 Abs.Box) hf0 (Nat.lt_succ_self _) (by simp only[Rows.uptoBulkAll]at hbk;show Rows.uptoBulk d0≤1048576;omega)
 have hrep0:zbn W (zkd W) (.agg n0) (enc x0):=by have h:=l0.agg;rw[zaQ]at h ⊢;exact h
 have hcall:=zia (vs:=[(.agg n0)]) (xs:=[enc x0]) (W:=W) (zEC hT x0 hrep0.wf) hglob rfl (fun j hj=>by
  have:j=0:=by simp at hj;omega
  rcases this with rfl
  ·exact hrep0)
 refine hcall.mono fun e W' ⟨he,hs⟩=>?_
 subst he
 have hb:Below W.heap.size W W':=⟨hs.os,hs.tape,hs.output,hs.size,hs.heap⟩
 refine⟨_,rfl,zjL (pa:=p0) (pv:=[]) hW' (fun _ _ _=>trodAll_cons_mk (shut_bool Tryd.underlying4 _) trodAll_mk0) (fun sp hsp=>?_) (fun _ _=>rfl) (by simp) hb (ok_one (by kernel_rfl) rfl (okWide_bool_mk Tryd.underlying4 _))⟩
 have hst0:DataW.Trod en Tryd.prog W' 0 sp true 25 (.agg n0) d0 p0:=WideElems.Trod_stays zwj (by kernel_rfl) (of_decide_eq_true (by kernel_rfl)) h0k (fun x hx=>hb.same (hlt x (by simp[hx]))) (fun x hx=>hsp x (by simp[hx]))
 have:=trodAll_cons_mk hst0 (trodAll_mk0 (enc:=en) (P:=Tryd.prog) (w:=W') (base:=0) (spare:=sp) (held:=true))
 rw[List.append_nil]at this
 rw[Tryd.params3]
 exact this
theorem zJk (os:Os):laidMet Tryd.prog Rows.discourseResolveMatchesSpecUptoRow.laid ((zhw os).forCall (fun _ _=>0) ⟨#[], #[.agg #[.slice none 0 0,.slice none 0 0]],[]⟩).memory:=
 laidMet_of_run' 8 (by kernel_rfl) (by kernel_rfl)
theorem zJr (os:Os){H:Type}(en:TypeId×Value→H):∃places,DataW.whole en Tryd.prog ((zhw os).forCall (fun _ _=>0) ⟨#[], #[.agg #[.slice none 0 0,.slice none 0 0]],[]⟩).memory Tryd.f3.params.toList Rows.discourseResolveMatchesSpecSpec.vars false #[Value.agg #[.slice none 0 0,.slice none 0 0]].toList 8=some ([.agg [.nil,.nil]],[],places):=
 ⟨[],by kernel_rfl⟩
theorem zJh (hT:Abs.zan Tryd.prog GA Y0)(os:Os)(started:os.Started)(H:Type)(en:TypeId×Value→H)(F:Stop.Interp):
  ReturnsInHanded {} Tryd.checked os 3 .any ((Rows.OpenSpec.upto Rows.discourseResolveMatchesSpecSpec).preRow en Tryd.prog Tryd.f3 Rows.discourseResolveMatchesSpecUptoRow.domain false Rows.discourseResolveMatchesSpecUptoRow.laid) (((Rows.OpenSpec.upto Rows.discourseResolveMatchesSpecSpec).at F).post en Tryd.prog Tryd.f3 false true false false):=by
 obtain⟨places,hx⟩:=zJr os en
 refine returnsInHanded_of_row (C:=Tryd.checked) (s:=Rows.OpenSpec.upto Rows.discourseResolveMatchesSpecSpec) own started (by kernel_rfl) Tryd.func3
  (witness_row_at (enc:=en) (C:=Tryd.checked) false (zhw os) #[.agg #[.slice none 0 0,.slice none 0 0]] rfl (by kernel_rfl) (by kernel_rfl) (by kernel_rfl)
   (OpenSpec.preRow_of_cond 8 hx (by kernel_rfl) (fun k hk=>by cases hk;kernel_rfl) (by kernel_rfl) (zJk os))) ?_
 intro W base args ds gs before hval hW _ hc _ hL _ _
 have hL':laidMet Tryd.prog Rows.discourseResolveMatchesSpecUptoRow.laid W:=hL
 have hb:Rows.uptoBulkAll (ds++gs)≤1048576:=of_decide_eq_true (hc _ rfl)
 exact zJj hT H en W base args ds gs before hval hW (zpd (zJv hL')) (Nat.le_trans (zns ds gs) hb)
theorem zJn:(Rows.discourseResolveMatchesSpecUptoRow.inPlace==Tryd.pinned.checked.prog.inPlace 3)=true:=by kernel_rfl
theorem zJt:(Rows.discourseResolveMatchesSpecUptoRow.unfollowed==Tryd.pinned.checked.prog.unfollowed 3)=true:=by kernel_rfl
theorem zJs:(Rows.discourseResolveMatchesSpecUptoRow.recurses==Tryd.pinned.checked.prog.recurses 3)=true:=by kernel_rfl
theorem zJm:(Rows.discourseResolveMatchesSpecUptoRow.named==Tryd.pinned.checked.prog.varsNamed 3)=true:=by kernel_rfl
theorem zJp:false=Rows.discourseResolveMatchesSpecUptoRow.goesBy Tryd.pinned.checked.prog:=by kernel_rfl
theorem zJw:Rows.discourseResolveMatchesSpecUptoRow.wfByText (Rows.OpenSpec.upto Rows.discourseResolveMatchesSpecSpec)=true:=by kernel_rfl
theorem zJu:Tryd.pinned.checked.prog.funcNamed "glosswright/glosswrightlaw2.DiscourseResolveMatchesSpec" =some 3:=by kernel_rfl
theorem zJo:joinedFacts Tryd.pinned.checked.prog 3 Tryd.f3 (Rows.OpenSpec.upto Rows.discourseResolveMatchesSpecSpec).bare Rows.discourseResolveMatchesSpecUptoRow=true:=by
 unfold joinedFacts
 exact(am (am (am (am (am (am (am (am (am (am (am (am (am (am (am (am (am (am (am (am (am (am (am (am (am (am (am (am (am (am (am (by kernel_rfl) ztC) zBU) (by kernel_rfl)) (by kernel_rfl)) (by kernel_rfl)) zyF) (by kernel_rfl)) zyC) zJn) zJt) zJs) zJm) (by kernel_rfl)) (by kernel_rfl)) (by kernel_rfl)) (by kernel_rfl)) (by kernel_rfl)) (by kernel_rfl)) (by kernel_rfl)) (by kernel_rfl)) (by kernel_rfl)) zBS) (by kernel_rfl)) zyB) zyz) zyD) zBT) (by kernel_rfl)) (by kernel_rfl)) (by kernel_rfl)) (by kernel_rfl))
theorem zJl (hT:Abs.zan Tryd.prog GA Y0):Rows.DiscourseResolveMatchesSpecUptoSaid:=
 OpenClaim.holds_of_cond 3 Tryd.f3 rfl rfl rfl rfl rfl rfl rfl ⟨rfl,rfl,rfl,rfl,rfl⟩ rfl rfl rfl rfl rfl zJu Tryd.func3 zJo
  (of_decide_eq_true (by kernel_rfl)) (by unfold Func.isWrapper;first|(rw[if_pos (by decide+kernel)];kernel_rfl)|(rw[if_neg (by decide+kernel)];exact⟨rfl,rfl⟩))
  (fun os started H en _ F=>by rw[OpenClaim.pre_eq_preRow];exact zJh hT os started H en F)
theorem zJq (f:FuncId)(fn:Func)(hf:Tryd.pinned.checked.prog.funcNamed "glosswright/glosswrightlaw2.DiscourseResolveMatchesSpec" =some f)(hfn:Tryd.pinned.checked.prog.funcs[f]?=some fn):
  false=Tryd.pinned.checked.prog.looks []∧∀(j:Nat) t,fn.params[j]?=some t→Tryd.pinned.checked.prog.wantsStandIn t=false:=by
 obtain rfl:f=3:=Option.some.inj ((show Tryd.prog.funcNamed "glosswright/glosswrightlaw2.DiscourseResolveMatchesSpec" =some 3 from zJu).symm.trans hf)|>.symm
 obtain rfl:fn=Tryd.f3:=(Option.some.inj (Tryd.func3.symm.trans hfn)).symm
 refine⟨zyE,fun j t ht=>?_⟩
 rw[Tryd.params3]at ht
 have hm:t=25:=by simpa using Array.mem_of_getElem? ht
 rcases hm with rfl
 ·exact(show Tryd.prog.wantsStandIn 25=false by kernel_rfl)
theorem zJi (hT:Abs.zan Tryd.prog GA Y0):Rows.DiscourseResolveMatchesSpecUptoCardSaid:=
 Claim7.holds_tied_plain_at .later [] _ _ _ _ (zJl hT) (fun _ h=>by cases h) zJw (fun _ h=>by cases h) discourseResolveMatchesSpecUpto_row_tie rfl ⟨rfl,rfl⟩ (by kernel_rfl) rfl zJq zJp
theorem resolveSpecCard:Rows.DiscourseResolveMatchesSpecUptoCardSaid:=zJi (hY0)
#print axioms resolveSpecCard
end Go.Proofs.YtalbdmcklgglbaaDoor
