/- Count returns what the document says (FinderCountMatchesSpec), for inputs within the bound of the statement's second form; no conditions. -/
import Derived.Test.YtkkffhphodngkaaDoorY10
import Derived.Test.YtkkffhphodngkaaDoorZQ158Q1691
set_option maxRecDepth 100000
set_option linter.unusedSimpArgs false
namespace Go.Proofs.YtkkffhphodngkaaDoor
open Go Go.Abs Go.RowKit Go.WideShapes Go.ChangeShapes Go.ChangeAt
theorem zLx {W:World}(h:laidMet Tryd.prog Rows.finderCountMatchesSpecUptoRow.laid W):∀g,GA g≠[]→g<W.heap.size∧∃cs T fr,W.heap[g]?=some (.cells cs T fr)∧cs.size=(GA g).length∧∀j,j<(GA g).length→∃v,cs[j]?=some v∧zbh W (zi1 W) v ((GA g).getD j .nilf):=
 zke h (.head _)
theorem zLl (hT:zan Tryd.prog GA I18)(H:Type)(en:TypeId×Value→H)(W:World)(base:Nat)(args:Array Value)(ds gs:List (DataW H))(before:List MemPlace)
  (hval:∀(j:Nat) t v,Tryd.f3.params[j]?=some t→args[j]?=some v→Value.okWide Tryd.prog W .any base t v)
  (hW:DataW.Whole en Tryd.prog Tryd.f3.params.toList Rows.finderCountMatchesSpecSpec.vars false W args.toList ds gs before)
  (hglob:zi2 GA W (zi1 W))(hbk:Rows.uptoBulkAll ds≤1048576):
  Calls Tryd.prog 3 args W fun e W'=>∃v,e= .returned v∧Rows.finderCountMatchesSpecSpec.post en Tryd.prog Tryd.f3 false true false false W args v W':=by
 have hW':=hW
 obtain⟨p,q,hA0,hV,rfl,hfz,hnd⟩:=hW
 have hA:DataW.TrodAll en Tryd.prog W 0 (fun _=>true) true Tryd.f3.params.toList args.toList ds p:=hA0
 rw[Tryd.params3]at hA hval
 obtain⟨v0,vs0,d0,ds0,p0,q0,hargs,rfl,rfl,h0,r0⟩:=trodAll_cons hA
 obtain⟨v1,vs1,d1,ds1,p1,q1,rfl,rfl,rfl,h1,r1⟩:=trodAll_cons r0
 obtain⟨rfl,rfl,rfl⟩:=trodAll_nil r1
 obtain rfl:args= #[v0,v1]:=by cases args;simp_all
 obtain⟨rfl,rfl⟩:=trodVars_none hV
 obtain⟨a0,len0,cap0,rfl⟩:=okWide_slice Tryd.underlying22 (hval 0 22 v0 rfl rfl)
 obtain⟨n1,rfl,_,_,wf1⟩:=open_int Tryd.underlying3 (hval 1 3 v1 rfl rfl) h1
 have h0k:=h0
 have h1k:=h1
 obtain⟨fuel0,hf0⟩:=h0
 obtain⟨fuel1,hf1⟩:=h1
 clear hA0
 simp only[List.append_nil]at hW'
 have hlt:∀x∈p0++p1,x.block<W.heap.size:=fun x hx=>by simpa using hW'.lt x (by simpa using hx)
 obtain⟨x0,l0⟩:=((ziv (α:=Abs.zaf) zfD Tryd.underlying22 (by rw[show Tryd.prog.cellsOf 29=4 by kernel_rfl];decide) (zuR)):RdN (SizeOf.sizeOf d0+1) (fun _ d=>Rows.uptoBulk d) Tryd.prog 22 (List Abs.zaf)) hf0 (Nat.lt_succ_self _) (by simp only[Rows.uptoBulkAll]at hbk;show Rows.uptoBulk d0≤1048576;omega)
 have hrep0:zbh W (zi1 W) (.slice a0 len0 cap0) (enc x0):=l0.one_inv
 obtain⟨x1,l1⟩:=((zsu rfl Tryd.underlying3):RdN (SizeOf.sizeOf d1+1) (fun _ d=>Rows.uptoBulk d) Tryd.prog 3 Int) hf1 (Nat.lt_succ_self _) (by simp only[Rows.uptoBulkAll]at hbk;show Rows.uptoBulk d1≤1048576;omega)
 have hrep1:zbh W (zi1 W) (.int .i64 n1) (enc x1):=l1.one_inv
 have hcall:=ziR (vs:=[(.slice a0 len0 cap0),(.int .i64 n1)]) (xs:=[enc x0,enc x1]) (W:=W) (zz7 hT x0 x1 hrep0.wf hrep1.wf) hglob rfl (fun j hj=>by
  have:j=0∨j=1:=by simp at hj;omega
  rcases this with rfl|rfl
  ·exact hrep0
  ·exact hrep1)
 refine hcall.mono fun e W' ⟨he,hs⟩=>?_
 subst he
 have hb:Below W.heap.size W W':=⟨hs.os,hs.tape,hs.output,hs.size,hs.heap⟩
 refine⟨_,rfl,zku (pa:=p0++p1) (pv:=[]) hW' (fun _ _ _=>trodAll_cons_mk (shut_bool Tryd.underlying4 _) trodAll_mk0) (fun sp hsp=>?_) (fun _ _=>rfl) (by simp) hb (ok_one (by kernel_rfl) rfl (okWide_bool_mk Tryd.underlying4 _))⟩
 have hst0:DataW.Trod en Tryd.prog W' 0 sp true 22 (.slice a0 len0 cap0) d0 p0:=WideElems.Trod_stays zr1 (by kernel_rfl) (of_decide_eq_true (by kernel_rfl)) h0k (fun x hx=>hb.same (hlt x (by simp[hx]))) (fun x hx=>hsp x (by simp[hx]))
 have hst1:DataW.Trod en Tryd.prog W' 0 sp true 3 (.int .i64 n1) d1 p1:=WideElems.Trod_stays zr1 (by kernel_rfl) (of_decide_eq_true (by kernel_rfl)) h1k (fun x hx=>hb.same (hlt x (by simp[hx]))) (fun x hx=>hsp x (by simp[hx]))
 have:=trodAll_cons_mk hst0 (trodAll_cons_mk hst1 (trodAll_mk0 (enc:=en) (P:=Tryd.prog) (w:=W') (base:=0) (spare:=sp) (held:=true)))
 rw[List.append_nil]at this
 rw[Tryd.params3]
 exact this
theorem zLm (os:Os):laidMet Tryd.prog Rows.finderCountMatchesSpecUptoRow.laid ((zic os).forCall (fun _ _=>0) ⟨#[], #[.slice none 0 0,.int .i64 0],[]⟩).memory:=
 laidMet_of_run' 8 (by kernel_rfl) (by kernel_rfl)
theorem zLt (os:Os){H:Type}(en:TypeId×Value→H):∃places,DataW.whole en Tryd.prog ((zic os).forCall (fun _ _=>0) ⟨#[], #[.slice none 0 0,.int .i64 0],[]⟩).memory Tryd.f3.params.toList Rows.finderCountMatchesSpecSpec.vars false #[Value.slice none 0 0,Value.int .i64 0].toList 8=some ([.nil,.lit (.int .i64 0)],[],places):=
 ⟨[],by kernel_rfl⟩
theorem zLj (hT:Abs.zan Tryd.prog GA I18)(os:Os)(started:os.Started)(H:Type)(en:TypeId×Value→H)(F:Stop.Interp):
  ReturnsInHanded {} Tryd.checked os 3 .any ((Rows.OpenSpec.upto Rows.finderCountMatchesSpecSpec).preRow en Tryd.prog Tryd.f3 Rows.finderCountMatchesSpecUptoRow.domain false Rows.finderCountMatchesSpecUptoRow.laid) (((Rows.OpenSpec.upto Rows.finderCountMatchesSpecSpec).at F).post en Tryd.prog Tryd.f3 false true false false):=by
 obtain⟨places,hx⟩:=zLt os en
 refine returnsInHanded_of_row (C:=Tryd.checked) (s:=Rows.OpenSpec.upto Rows.finderCountMatchesSpecSpec) own started (by kernel_rfl) Tryd.func3
  (witness_row_at (enc:=en) (C:=Tryd.checked) false (zic os) #[.slice none 0 0,.int .i64 0] rfl (by kernel_rfl) (by kernel_rfl) (by kernel_rfl)
   (OpenSpec.preRow_of_cond 8 hx (by kernel_rfl) (fun k hk=>by cases hk;kernel_rfl) (by kernel_rfl) (zLm os))) ?_
 intro W base args ds gs before hval hW _ hc _ hL _ _
 have hL':laidMet Tryd.prog Rows.finderCountMatchesSpecUptoRow.laid W:=hL
 have hb:Rows.uptoBulkAll (ds++gs)≤1048576:=of_decide_eq_true (hc _ rfl)
 exact zLl hT H en W base args ds gs before hval hW (zp7 (zLx hL')) (Nat.le_trans (zn0 ds gs) hb)
theorem zLp:(Rows.finderCountMatchesSpecUptoRow.inPlace==Tryd.pinned.checked.prog.inPlace 3)=true:=by kernel_rfl
theorem zLv:(Rows.finderCountMatchesSpecUptoRow.unfollowed==Tryd.pinned.checked.prog.unfollowed 3)=true:=by kernel_rfl
theorem zLu:(Rows.finderCountMatchesSpecUptoRow.recurses==Tryd.pinned.checked.prog.recurses 3)=true:=by kernel_rfl
theorem zLo:(Rows.finderCountMatchesSpecUptoRow.named==Tryd.pinned.checked.prog.varsNamed 3)=true:=by kernel_rfl
theorem zLr:false=Rows.finderCountMatchesSpecUptoRow.goesBy Tryd.pinned.checked.prog:=by kernel_rfl
theorem zLy:Rows.finderCountMatchesSpecUptoRow.wfByText (Rows.OpenSpec.upto Rows.finderCountMatchesSpecSpec)=true:=by kernel_rfl
theorem zLw:Tryd.pinned.checked.prog.funcNamed "glosswright/glosswrightlaw2.FinderCountMatchesSpec" =some 3:=by kernel_rfl
theorem zLq:joinedFacts Tryd.pinned.checked.prog 3 Tryd.f3 (Rows.OpenSpec.upto Rows.finderCountMatchesSpecSpec).bare Rows.finderCountMatchesSpecUptoRow=true:=by
 unfold joinedFacts
 exact(am (am (am (am (am (am (am (am (am (am (am (am (am (am (am (am (am (am (am (am (am (am (am (am (am (am (am (am (am (am (am (by kernel_rfl) zur) zCT) (by kernel_rfl)) (by kernel_rfl)) (by kernel_rfl)) zzw) (by kernel_rfl)) zzt) zLp) zLv) zLu) zLo) (by kernel_rfl)) (by kernel_rfl)) (by kernel_rfl)) (by kernel_rfl)) (by kernel_rfl)) (by kernel_rfl)) (by kernel_rfl)) (by kernel_rfl)) (by kernel_rfl)) zCR) (by kernel_rfl)) zzs) zzq) zzu) zCS) (by kernel_rfl)) (by kernel_rfl)) (by kernel_rfl)) (by kernel_rfl))
theorem zLn (hT:Abs.zan Tryd.prog GA I18):Rows.FinderCountMatchesSpecUptoSaid:=
 OpenClaim.holds_of_cond 3 Tryd.f3 rfl rfl rfl rfl rfl rfl rfl ⟨rfl,rfl,rfl,rfl,rfl⟩ rfl rfl rfl rfl rfl zLw Tryd.func3 zLq
  (of_decide_eq_true (by kernel_rfl)) (by unfold Func.isWrapper;first|(rw[if_pos (by decide+kernel)];kernel_rfl)|(rw[if_neg (by decide+kernel)];exact⟨rfl,rfl⟩))
  (fun os started H en _ F=>by rw[OpenClaim.pre_eq_preRow];exact zLj hT os started H en F)
theorem zLs (f:FuncId)(fn:Func)(hf:Tryd.pinned.checked.prog.funcNamed "glosswright/glosswrightlaw2.FinderCountMatchesSpec" =some f)(hfn:Tryd.pinned.checked.prog.funcs[f]?=some fn):
  false=Tryd.pinned.checked.prog.looks []∧∀(j:Nat) t,fn.params[j]?=some t→Tryd.pinned.checked.prog.wantsStandIn t=false:=by
 obtain rfl:f=3:=Option.some.inj ((show Tryd.prog.funcNamed "glosswright/glosswrightlaw2.FinderCountMatchesSpec" =some 3 from zLw).symm.trans hf)|>.symm
 obtain rfl:fn=Tryd.f3:=(Option.some.inj (Tryd.func3.symm.trans hfn)).symm
 refine⟨zzv,fun j t ht=>?_⟩
 rw[Tryd.params3]at ht
 have hm:t=22∨t=3:=by simpa using Array.mem_of_getElem? ht
 rcases hm with rfl|rfl
 ·exact(show Tryd.prog.wantsStandIn 22=false by kernel_rfl)
 ·exact(show Tryd.prog.wantsStandIn 3=false by kernel_rfl)
theorem zLk (hT:Abs.zan Tryd.prog GA I18):Rows.FinderCountMatchesSpecUptoCardSaid:=
 Claim7.holds_tied_plain_at .later [] _ _ _ _ (zLn hT) (fun _ h=>by cases h) zLy (fun _ h=>by cases h) finderCountMatchesSpecUpto_row_tie rfl ⟨rfl,rfl⟩ (by kernel_rfl) rfl zLs zLr
theorem countSpecCard:Rows.FinderCountMatchesSpecUptoCardSaid:=zLk (zCN)
#print axioms countSpecCard
end Go.Proofs.YtkkffhphodngkaaDoor
