/- several texts of this proof in one; no conditions -/
import Derived.Test.YtmconmiemdinkaaDoorY1
import Derived.Test.YtmconmiemdinkaaDoorA3
import Derived.Test.YtmconmiemdinkaaDoorCards
import Derived.Test.YtmconmiemdinkaaDoorTie
import Derived.WalkKit
import Derived.ProofKit
import Derived.OpenShut
import Derived.Deep.DeepHandedRow
import Derived.Lib.LaidTab
import Derived.Below
import Derived.Carry
import Derived.ChangeSame
import Derived.Test.YtmconmiemdinkaaDoorY6
import Derived.Test.YtmconmiemdinkaaDoorY13
set_option maxRecDepth 100000
set_option linter.unusedSimpArgs false
namespace Go.Proofs.YtmconmiemdinkaaDoor
open Go Go.Abs Go.RowKit Go.WideShapes Go.ChangeShapes
theorem zmC {H:Type}:∀(es:List (DataW H)),(∀d∈es,1≤Rows.uptoBulk d)→es.length≤Rows.uptoBulkAll es
 |[],_=>Nat.zero_le _
 |d::es,h=>by
  have h1:=h d (by simp)
  have h2:=zmC es fun d hd=>h d (by simp[hd])
  simp only[List.length_cons,Rows.uptoBulkAll];omega
theorem zi8 {H:Type}:∀(es:List (DataW H)) (d:DataW H),d∈es→Rows.uptoBulk d≤Rows.uptoBulkAll es
 |[],_,h=>by simp at h
 |e::es,d,h=>by
  simp only[Rows.uptoBulkAll]
  rcases List.mem_cons.1 h with rfl|h
  ·omega
  ·have:=zi8 es d h;omega
theorem zru {H:Type}(d:DataW H):1≤Rows.uptoBulk d:=by
 cases d with
 |lit l=>cases l<;>simp[Rows.uptoBulk]
 |_=>simp[Rows.uptoBulk]
theorem zbI:zjV (fun _ d=>Rows.uptoBulk d):=by
 refine⟨fun H b=>by simp[Rows.uptoBulk],fun H es sp=>?_,fun H es sp d hd=>?_,fun H ps d hd=>?_⟩
 ·have:=zmC es fun d _=>zru d
  simp only[Rows.uptoBulk];omega
 ·have:=zi8 es d hd
  simp only[Rows.uptoBulk];omega
 ·have:=zi8 ps d hd
  simp only[Rows.uptoBulk];omega
section
variable {H:Type} {en:TypeId×Value→H} {P:Program}
theorem zjD {f:Func}{s:ChangeSpec}{apart fresh handsOn again:Bool}{W W':World}{args:Array Value}{v:Value}{ds gs:List (DataW H)}{before pa pv:List MemPlace}
  (hW:DataW.Whole en P f.params.toList s.vars apart W args.toList ds gs before)
  (hres:∀(b:Nat) (sp:Nat→Bool) (hd:Bool),DataW.TrodAll en P W' b sp hd f.resultTypes.toList (v.resultList f.resultTypes.size) (s.fn H (ds++gs)).results [])
  (hargs:∀sp:Nat→Bool,(∀p∈before,sp p.block=true)→DataW.TrodAll en P W' 0 sp true f.params.toList args.toList (s.fn H (ds++gs)).args pa)
  (hvars:∀sp:Nat→Bool,(∀p∈before,sp p.block=true)→DataW.TrodVars en P W' sp s.vars (s.fn H (ds++gs)).vars pv)
  (hps:before=pa++pv)(hb:Below W.heap.size W W')
  (hok:∀(j:Nat) (t:TypeId) (r:Value),f.resultTypes[j]?=some t→(v.resultList f.resultTypes.size)[j]?=some r→Value.okWide P W' .any 0 t r):
  s.post en P f apart fresh handsOn again W args v W':=by
 have hlt:∀p∈before,p.block<W.heap.size:=fun p hp=>hW.lt p hp
 have hold:∀p∈before,(fun b=>decide (b<W.heap.size)) p.block=true:=fun p hp=>by simpa using hlt p hp
 refine⟨ds,gs,before,[],pa,pv,hW,hres _ _ _,hargs _ hold,hvars _ hold,World.keptBut_mono (fun p hp=>⟨hp,?_⟩) (hb.frame (· ∈before)),fun _=>?_⟩
 ·rw[hps,List.mem_append]at hp
  exact Or.inr hp
 ·obtain⟨_,_,_,_,_,hz,hn⟩:=hW
  refine⟨hok,_,_,([]++pa)++pv,⟨[]++pa,pv,trodAll_append (hargs _ (fun _ _=>rfl)) (hres _ _ _),hvars _ (fun _ _=>rfl),rfl,?_,?_⟩,?_⟩
  ·intro b off hp
   have hin:MemPlace.cell b off∈before:=by rw[hps];simpa using hp
   rw[hb.frozen (hlt _ hin)]
   exact hz b off hin
  ·intro ha
   have:=hn ha
   rw[hps]at this
   simpa using this
  ·intro p hp _
   rw[hps]
   simpa using hp
end
theorem zmf:laidOutB Tryd.prog=true:=by kernel_rfl
theorem zwp:Tryd.prog.globalNamed "glosswright/glosswrightlaw2.none" =some 0:=by kernel_rfl
theorem zpW:(Tryd.prog.globals[0]?).map (·.type)=some 28:=by kernel_rfl
theorem zm2 {P:Program}{W:World}{n:String}{d:DataW Unit}:∀{l:List (String×DataW Unit)} {ps:List MemPlace},DataW.LaidVars P W l ps→(n,d)∈l→
  ∃g t cs fuel p,P.globalNamed n=some g∧(P.globals[g]?).map (·.type)=some t∧W.var? P n=some cs∧DataW.trod (fun _=>()) P W 0 (fun _=>true) false fuel t cs.toList=some (d,p)
 |(n',d')::r,ps,h,hm=>by
  obtain⟨g,t,cs,fuel,p,q,h1,h2,h3,h4,h5,_⟩:=h
  rcases List.mem_cons.1 hm with e|hm
  ·obtain⟨rfl,rfl⟩:=Prod.mk.inj e
   exact⟨g,t,cs,fuel,p,h1,h2,h3,h4⟩
  ·exact zm2 h5 hm
theorem zsN {P:Program}{W:World}{n:String}{g:Nat}{cs:Array Value}(hg:P.globalNamed n=some g)(h:W.var? P n=some cs):g<W.heap.size∧∃T fr,W.heap[g]?=some (.cells cs T fr):=by
 simp only[World.var?,hg,Option.bind_some]at h
 split at h
 ·rename_i c t fr hb
  cases h
  refine⟨?_,t,fr,hb⟩
  rcases Nat.lt_or_ge g W.heap.size with h|h
  ·exact h
  ·rw[Array.getElem?_eq_none h]at hb;cases hb
 ·cases h
theorem zjs {l:List (String×DataW Unit)}{W:World}(h:laidMet Tryd.prog l W)(m0:("glosswright/glosswrightlaw2.none",Rows.laid_glosswright_glosswrightlaw2_none)∈l):
  ∀g,GA g≠[]→g<W.heap.size∧∃cs T fr,W.heap[g]?=some (.cells cs T fr)∧cs.size=(GA g).length∧∀j,j<(GA g).length→∃v,cs[j]?=some v∧zbf W (zhY W) v ((GA g).getD j .nilf):=by
 intro g hg
 obtain⟨ps,hl,_⟩:=h
 have hcase:g=0:=by
  by_cases e:g=0
  ·exact e
  ·exact absurd (by simp[GA,e]) hg
 rcases hcase with rfl
 ·obtain⟨g',t',cs,fuel,p,hg',ht',hvar,hd⟩:=zm2 hl m0
  obtain rfl:=Option.some.inj (zwp.symm.trans hg')
  obtain rfl:=Option.some.inj (zpW.symm.trans ht')
  obtain⟨hsz,T,fr,hb⟩:=zsN zwp hvar
  cases fuel with
  |zero=>simp[DataW.trod]at hd
  |succ fuel=>
   simp only[DataW.trod,Tryd.underlying28]at hd
   have c25:Tryd.prog.cellsOf 28=2:=by kernel_rfl
   have c3:Tryd.prog.cellsOf 3=1:=by kernel_rfl
   split at hd
   case isFalse=>cases hd
   rename_i hlen
   rw[c25]at hlen
   obtain⟨u0,u1,hcs⟩:∃u0 u1,cs.toList=[u0,u1]:=by
    match hc:cs.toList,hlen with
    |[a,b],_=>exact⟨a,b,rfl⟩
   rw[hcs]at hd
   simp only[List.mapM_cons,List.mapM_nil,c3,List.drop_zero,List.take_succ_cons,List.take_zero,List.drop_succ_cons,Option.map_eq_some_iff,Option.bind_eq_bind,Option.bind_eq_some_iff,Option.pure_def,Option.some.injEq,Prod.mk.injEq]at hd
   obtain⟨xs,⟨x0,h0,ys,⟨x1,h1,zs,hz,rfl⟩,rfl⟩,e1,_⟩:=hd
   subst hz
   obtain⟨n0,k0,rfl,_⟩:=DataW.trod_int Tryd.underlying3 h0
   obtain⟨n1,k1,rfl,_⟩:=DataW.trod_int Tryd.underlying3 h1
   simp only[List.cons.injEq,and_true]at k0 k1
   subst k0
   subst k1
   simp only[List.map_cons,List.map_nil,Rows.laid_glosswright_glosswrightlaw2_none,DataW.agg.injEq,List.cons.injEq,DataW.lit.injEq,Lit.int.injEq,true_and,and_true]at e1
   obtain⟨rfl,rfl⟩:=e1
   have hca:cs= #[.int .i64 0,.int .i64 0]:=by rw[←Array.toArray_toList (xs:=cs),hcs]
   subst hca
   refine⟨hsz,_,T,fr,hb,rfl,fun j hj=>⟨.int .i64 0,?_,?_⟩⟩
   ·have:j=0∨j=1:=by simp[GA]at hj;omega
    rcases this with rfl|rfl<;>rfl
   ·have:j=0∨j=1:=by simp[GA]at hj;omega
    rcases this with rfl|rfl
    ·exact .i .i64 0 (by decide) (by decide)
    ·exact .i .i64 0 (by decide) (by decide)
open Go.ChangeAt in
theorem zmB {H:Type}:∀(ds gs:List (DataW H)),Rows.uptoBulkAll ds≤Rows.uptoBulkAll (ds++gs)
 |[],_=>Nat.zero_le _
 |d::ds,gs=>by
  have:=zmB ds gs
  simp only[List.cons_append,Rows.uptoBulkAll];omega
theorem own:ownKnob Tryd.prog.godebug=none:=by kernel_rfl
def zsz (vs:List Value):Obj→Obj
 | .cells _ t frozen=> .cells vs.toArray t frozen
 |o=>o
noncomputable def zhm (os:Os):World:=
 {World.holding Tryd.prog os ⟨#[], #[],[]⟩with heap:=(World.holding Tryd.prog os ⟨#[], #[],[]⟩).heap.modify 0 (zsz [.int .i64 0,.int .i64 0])}
end Go.Proofs.YtmconmiemdinkaaDoor
namespace Go.Proofs.YtmconmiemdinkaaDoor
open Go Go.Abs
theorem c9:Tryd.prog.cellsOf 9=1:=by kernel_rfl
theorem c57:Tryd.prog.cellsOf 35=4:=by kernel_rfl
theorem znc {n:Nat}:RdN n (fun _ d=>Rows.uptoBulk d) Tryd.prog 24 (List Str):=
 zfw (α:=Str) zbI Tryd.underlying24 (by rw[c9];decide) (RdN.of (zhC zbI Tryd.underlying9))
theorem zsv:∀{n:Nat},RdN n (fun _ d=>Rows.uptoBulk d) Tryd.prog 35 Abs.zab:=by
 intro n
 induction n with
 |zero=>intro H en w base spare held fuel cs x hd hsz hbk;omega
 |succ n ih=>
  intro H en w base spare held fuel cs x hd hsz hbk
  obtain⟨hlen,ps,k,hx,hf⟩:=zdU Tryd.underlying35 hd
  obtain⟨x1,x2⟩:=x
  obtain rfl:x1= .agg ps:=hx
  rw[c57]at hlen
  obtain⟨a0,r0⟩:=zc6 (n:=n) (α:=Int) (o:=0) (s:=1) zbI hf 0 rfl rfl rfl (by kernel_rfl) (zuA rfl Tryd.underlying3) hsz hbk
  obtain⟨a1,r1⟩:=zc6 (n:=n) (α:=Str) (o:=1) (s:=1) zbI hf 1 rfl rfl rfl (by kernel_rfl) (RdN.of (zhC zbI Tryd.underlying9)) hsz hbk
  obtain⟨a2,r2⟩:=zc6 (n:=n) (α:=List Str) (o:=2) (s:=1) zbI hf 2 rfl rfl rfl (by kernel_rfl) znc hsz hbk
  obtain⟨a3,r3⟩:=zc6 (n:=n) (α:=List Abs.zab) (o:=3) (s:=1) zbI hf 3 rfl rfl rfl (by kernel_rfl) (zfw (α:=Abs.zab) zbI Tryd.underlying33 (by rw[c57];decide) ih) hsz hbk
  refine⟨.mk a0 a1 a2 a3,?_⟩
  rw[zaJ]
  exact CR.part (o:=0) r0 (CR.part r1 (CR.part r2 (CR.part r3 (CR.fin hlen))))
end Go.Proofs.YtmconmiemdinkaaDoor
namespace Go.Proofs.YtmconmiemdinkaaDoor
open Go Go.Abs Go.RowKit Go.WideShapes Go.ChangeShapes Go.ChangeAt
theorem am {a b:Bool}(h1:a=true)(h2:b=true):(a&&b)=true:=by rw[h1,h2];rfl
theorem zr8:laidOutB Tryd.pinned.checked.prog=true:=by kernel_rfl
theorem zzR:mapsRowed Tryd.pinned.checked.prog=true:=by kernel_rfl
theorem zwC:(Tryd.pinned.checked.prog.stops==[])=true:=by kernel_rfl
theorem zwz:(Tryd.pinned.checked.prog.stopKnobs==[])=true:=by kernel_rfl
theorem zwy:Tryd.pinned.checked.prog.stopsHeard=true:=by kernel_rfl
theorem zww:Tryd.pinned.checked.prog.mayEnter=true:=by kernel_rfl
theorem zzP:(Rows.scopeDominatesMatchesSpecUptoRow.plainKeys==Tryd.pinned.checked.prog.plainKeys)=true:=by kernel_rfl
theorem zwA:(Rows.scopeDominatesMatchesSpecUptoRow.lifted==Tryd.pinned.checked.prog.liftsFinal)=true:=by kernel_rfl
theorem zzQ:(Tryd.pinned.checked.prog.make==some Rows.scopeDominatesMatchesSpecUptoRow.make)=true:=by kernel_rfl
theorem zwB:false=Tryd.pinned.checked.prog.looks []:=by kernel_rfl
end Go.Proofs.YtmconmiemdinkaaDoor
namespace Go.Proofs.YtmconmiemdinkaaDoor
open Go Go.Abs
theorem zsT:Tryd.prog.cellsOf 37=5:=by kernel_rfl
theorem zv6:Tryd.prog.cellsOf 64=2:=by kernel_rfl
theorem ztz:Tryd.prog.cellsOf 26=3:=by kernel_rfl
theorem zqw {n:Nat}:RdN n (fun _ d=>Rows.uptoBulk d) Tryd.prog 37 Abs.zbB:=by
 cases n with
 |zero=>intro H en w base spare held fuel cs x hd hsz hbk;omega
 |succ n=>
  intro H en w base spare held fuel cs x hd hsz hbk
  obtain⟨hlen,ps,k,hx,hf⟩:=zdU Tryd.underlying37 hd
  obtain⟨x1,x2⟩:=x
  obtain rfl:x1= .agg ps:=hx
  rw[zsT]at hlen
  obtain⟨a0,r0⟩:=zc6 (n:=n) (α:=Str) (o:=0) (s:=1) zbI hf 0 rfl rfl rfl (by kernel_rfl) (RdN.of (zhC zbI Tryd.underlying9)) hsz hbk
  obtain⟨a1,r1⟩:=zc6 (n:=n) (α:=Abs.zab) (o:=1) (s:=4) zbI hf 1 rfl rfl rfl (by kernel_rfl) zsv hsz hbk
  refine⟨⟨a0,a1⟩,?_⟩
  rw[zaJ]at r1
  rw[zkq]
  exact CR.part (o:=0) r0 (CR.part r1 (CR.fin hlen))
theorem zsw {n:Nat}:RdN n (fun _ d=>Rows.uptoBulk d) Tryd.prog 64 Abs.zlw:=by
 cases n with
 |zero=>intro H en w base spare held fuel cs x hd hsz hbk;omega
 |succ n=>
  intro H en w base spare held fuel cs x hd hsz hbk
  obtain⟨hlen,ps,k,hx,hf⟩:=zdU Tryd.underlying64 hd
  obtain⟨x1,x2⟩:=x
  obtain rfl:x1= .agg ps:=hx
  rw[zv6]at hlen
  obtain⟨a0,r0⟩:=zc6 (n:=n) (α:=Str) (o:=0) (s:=1) zbI hf 0 rfl rfl rfl (by kernel_rfl) (RdN.of (zhC zbI Tryd.underlying9)) hsz hbk
  obtain⟨a1,r1⟩:=zc6 (n:=n) (α:=Str) (o:=1) (s:=1) zbI hf 1 rfl rfl rfl (by kernel_rfl) (RdN.of (zhC zbI Tryd.underlying9)) hsz hbk
  refine⟨⟨a0,a1⟩,?_⟩
  rw[zmR]
  exact CR.part (o:=0) r0 (CR.part r1 (CR.fin hlen))
theorem zox {n:Nat}:RdN n (fun _ d=>Rows.uptoBulk d) Tryd.prog 26 Abs.zal:=by
 cases n with
 |zero=>intro H en w base spare held fuel cs x hd hsz hbk;omega
 |succ n=>
  intro H en w base spare held fuel cs x hd hsz hbk
  obtain⟨hlen,ps,k,hx,hf⟩:=zdU Tryd.underlying26 hd
  obtain⟨x1,x2⟩:=x
  obtain rfl:x1= .agg ps:=hx
  rw[ztz]at hlen
  obtain⟨a0,r0⟩:=zc6 (n:=n) (α:=List Abs.zbB) (o:=0) (s:=1) zbI hf 0 rfl rfl rfl (by kernel_rfl) (zfw (α:=Abs.zbB) zbI Tryd.underlying22 (by rw[zsT];decide) zqw) hsz hbk
  obtain⟨a1,r1⟩:=zc6 (n:=n) (α:=List Abs.zlw) (o:=1) (s:=1) zbI hf 1 rfl rfl rfl (by kernel_rfl) (zfw (α:=Abs.zlw) zbI Tryd.underlying23 (by rw[zv6];decide) zsw) hsz hbk
  obtain⟨a2,r2⟩:=zc6 (n:=n) (α:=List Str) (o:=2) (s:=1) zbI hf 2 rfl rfl rfl (by kernel_rfl) znc hsz hbk
  refine⟨⟨a0,a1,a2⟩,?_⟩
  rw[zcR]
  exact CR.part (o:=0) r0 (CR.part r1 (CR.part r2 (CR.fin hlen)))
end Go.Proofs.YtmconmiemdinkaaDoor
