/- several texts of this proof in one; no conditions -/
import Derived.Test.YtalbdmcklgglbaaDoorY1
import Derived.Test.YtalbdmcklgglbaaDoorA3
import Derived.Test.YtalbdmcklgglbaaDoorCards
import Derived.Test.YtalbdmcklgglbaaDoorTie
import Derived.WalkKit
import Derived.ProofKit
import Derived.OpenShut
import Derived.Deep.DeepHandedRow
import Derived.Lib.LaidTab
import Derived.Below
import Derived.Carry
import Derived.ChangeSame
import Derived.Test.YtalbdmcklgglbaaDoorY5
import Derived.Test.YtalbdmcklgglbaaDoorY9
set_option maxRecDepth 100000
set_option linter.unusedSimpArgs false
namespace Go.Proofs.YtalbdmcklgglbaaDoor
open Go Go.Abs Go.RowKit Go.WideShapes Go.ChangeShapes
theorem znt {H:Type}:∀(es:List (DataW H)),(∀d∈es,1≤Rows.uptoBulk d)→es.length≤Rows.uptoBulkAll es
 |[],_=>Nat.zero_le _
 |d::es,h=>by
  have h1:=h d (by simp)
  have h2:=znt es fun d hd=>h d (by simp[hd])
  simp only[List.length_cons,Rows.uptoBulkAll];omega
theorem zjj {H:Type}:∀(es:List (DataW H)) (d:DataW H),d∈es→Rows.uptoBulk d≤Rows.uptoBulkAll es
 |[],_,h=>by simp at h
 |e::es,d,h=>by
  simp only[Rows.uptoBulkAll]
  rcases List.mem_cons.1 h with rfl|h
  ·omega
  ·have:=zjj es d h;omega
theorem zs3 {H:Type}(d:DataW H):1≤Rows.uptoBulk d:=by
 cases d with
 |lit l=>cases l<;>simp[Rows.uptoBulk]
 |_=>simp[Rows.uptoBulk]
theorem zcD:zki (fun _ d=>Rows.uptoBulk d):=by
 refine⟨fun H b=>by simp[Rows.uptoBulk],fun H es sp=>?_,fun H es sp d hd=>?_,fun H ps d hd=>?_⟩
 ·have:=znt es fun d _=>zs3 d
  simp only[Rows.uptoBulk];omega
 ·have:=zjj es d hd
  simp only[Rows.uptoBulk];omega
 ·have:=zjj ps d hd
  simp only[Rows.uptoBulk];omega
section
variable {H:Type} {en:TypeId×Value→H} {P:Program}
theorem zjL {f:Func}{s:ChangeSpec}{apart fresh handsOn again:Bool}{W W':World}{args:Array Value}{v:Value}{ds gs:List (DataW H)}{before pa pv:List MemPlace}
  (hW:DataW.Whole en P f.params.toList s.vars apart W args.toList ds gs before)
  (hres:∀(b:Nat) (sp:Nat→Bool) (hd:Bool),DataW.TrodAll en P W' b sp hd f.resultTypes.toList (v.resultList f.resultTypes.size) (s.fn H (ds++gs)).results [])
  (hargs:∀sp:Nat→Bool,(∀p∈before,sp p.block=true)→DataW.TrodAll en P W' 0 sp true f.params.toList args.toList (s.fn H (ds++gs)).args pa)
  (hvars:∀sp:Nat→Bool,(∀p∈before,sp p.block=true)→DataW.TrodVars en P W' sp s.vars (s.fn H (ds++gs)).vars pv)
  (hps:before=pa++pv)(hb:Below W.heap.size W W')
  (hok:∀(j:Nat) (t:TypeId) (r:Value),f.resultTypes[j]?=some t→(v.resultList f.resultTypes.size)[j]?=some r→Value.okWide P W' .any 0 t r):
  s.post en P f apart fresh handsOn again W args v W':=by
 have hlt:∀p∈before,p.block<W.heap.size:=fun p hp=>hW.lt p hp
 have hold:∀p∈before,(fun b=>decide (b<W.heap.size)) p.block=true:=fun p hp=>by simpa using hlt p hp
 refine⟨ds,gs,before,[],pa,pv,hW,hres _ _ _,hargs _ hold,hvars _ hold,World.keptBut_mono (fun p hp=>⟨hp,?_⟩) (hb.frame (· ∈before)),fun _=>?_⟩
 ·rw[hps,List.mem_append]at hp
  exact Or.inr hp
 ·obtain⟨_,_,_,_,_,hz,hn⟩:=hW
  refine⟨hok,_,_,([]++pa)++pv,⟨[]++pa,pv,trodAll_append (hargs _ (fun _ _=>rfl)) (hres _ _ _),hvars _ (fun _ _=>rfl),rfl,?_,?_⟩,?_⟩
  ·intro b off hp
   have hin:MemPlace.cell b off∈before:=by rw[hps];simpa using hp
   rw[hb.frozen (hlt _ hin)]
   exact hz b off hin
  ·intro ha
   have:=hn ha
   rw[hps]at this
   simpa using this
  ·intro p hp _
   rw[hps]
   simpa using hp
end
theorem zwj:laidOutB Tryd.prog=true:=by kernel_rfl
theorem zyt:Tryd.prog.globalNamed "glosswright/glosswrightlaw2.none" =some 0:=by kernel_rfl
theorem zqX:(Tryd.prog.globals[0]?).map (·.type)=some 28:=by kernel_rfl
theorem znO {P:Program}{W:World}{n:String}{d:DataW Unit}:∀{l:List (String×DataW Unit)} {ps:List MemPlace},DataW.LaidVars P W l ps→(n,d)∈l→
  ∃g t cs fuel p,P.globalNamed n=some g∧(P.globals[g]?).map (·.type)=some t∧W.var? P n=some cs∧DataW.trod (fun _=>()) P W 0 (fun _=>true) false fuel t cs.toList=some (d,p)
 |(n',d')::r,ps,h,hm=>by
  obtain⟨g,t,cs,fuel,p,q,h1,h2,h3,h4,h5,_⟩:=h
  rcases List.mem_cons.1 hm with e|hm
  ·obtain⟨rfl,rfl⟩:=Prod.mk.inj e
   exact⟨g,t,cs,fuel,p,h1,h2,h3,h4⟩
  ·exact znO h5 hm
theorem zum {P:Program}{W:World}{n:String}{g:Nat}{cs:Array Value}(hg:P.globalNamed n=some g)(h:W.var? P n=some cs):g<W.heap.size∧∃T fr,W.heap[g]?=some (.cells cs T fr):=by
 simp only[World.var?,hg,Option.bind_some]at h
 split at h
 ·rename_i c t fr hb
  cases h
  refine⟨?_,t,fr,hb⟩
  rcases Nat.lt_or_ge g W.heap.size with h|h
  ·exact h
  ·rw[Array.getElem?_eq_none h]at hb;cases hb
 ·cases h
theorem zjw {l:List (String×DataW Unit)}{W:World}(h:laidMet Tryd.prog l W)(m0:("glosswright/glosswrightlaw2.none",Rows.laid_glosswright_glosswrightlaw2_none)∈l):
  ∀g,GA g≠[]→g<W.heap.size∧∃cs T fr,W.heap[g]?=some (.cells cs T fr)∧cs.size=(GA g).length∧∀j,j<(GA g).length→∃v,cs[j]?=some v∧zbn W (zkd W) v ((GA g).getD j .nilf):=by
 intro g hg
 obtain⟨ps,hl,_⟩:=h
 have hcase:g=0:=by
  by_cases e:g=0
  ·exact e
  ·exact absurd (by simp[GA,e]) hg
 rcases hcase with rfl
 ·obtain⟨g',t',cs,fuel,p,hg',ht',hvar,hd⟩:=znO hl m0
  obtain rfl:=Option.some.inj (zyt.symm.trans hg')
  obtain rfl:=Option.some.inj (zqX.symm.trans ht')
  obtain⟨hsz,T,fr,hb⟩:=zum zyt hvar
  cases fuel with
  |zero=>simp[DataW.trod]at hd
  |succ fuel=>
   simp only[DataW.trod,Tryd.underlying28]at hd
   have c25:Tryd.prog.cellsOf 28=2:=by kernel_rfl
   have c3:Tryd.prog.cellsOf 3=1:=by kernel_rfl
   split at hd
   case isFalse=>cases hd
   rename_i hlen
   rw[c25]at hlen
   obtain⟨u0,u1,hcs⟩:∃u0 u1,cs.toList=[u0,u1]:=by
    match hc:cs.toList,hlen with
    |[a,b],_=>exact⟨a,b,rfl⟩
   rw[hcs]at hd
   simp only[List.mapM_cons,List.mapM_nil,c3,List.drop_zero,List.take_succ_cons,List.take_zero,List.drop_succ_cons,Option.map_eq_some_iff,Option.bind_eq_bind,Option.bind_eq_some_iff,Option.pure_def,Option.some.injEq,Prod.mk.injEq]at hd
   obtain⟨xs,⟨x0,h0,ys,⟨x1,h1,zs,hz,rfl⟩,rfl⟩,e1,_⟩:=hd
   subst hz
   obtain⟨n0,k0,rfl,_⟩:=DataW.trod_int Tryd.underlying3 h0
   obtain⟨n1,k1,rfl,_⟩:=DataW.trod_int Tryd.underlying3 h1
   simp only[List.cons.injEq,and_true]at k0 k1
   subst k0
   subst k1
   simp only[List.map_cons,List.map_nil,Rows.laid_glosswright_glosswrightlaw2_none,DataW.agg.injEq,List.cons.injEq,DataW.lit.injEq,Lit.int.injEq,true_and,and_true]at e1
   obtain⟨rfl,rfl⟩:=e1
   have hca:cs= #[.int .i64 0,.int .i64 0]:=by rw[←Array.toArray_toList (xs:=cs),hcs]
   subst hca
   refine⟨hsz,_,T,fr,hb,rfl,fun j hj=>⟨.int .i64 0,?_,?_⟩⟩
   ·have:j=0∨j=1:=by simp[GA]at hj;omega
    rcases this with rfl|rfl<;>rfl
   ·have:j=0∨j=1:=by simp[GA]at hj;omega
    rcases this with rfl|rfl
    ·exact .i .i64 0 (by decide) (by decide)
    ·exact .i .i64 0 (by decide) (by decide)
open Go.ChangeAt in
theorem zns {H:Type}:∀(ds gs:List (DataW H)),Rows.uptoBulkAll ds≤Rows.uptoBulkAll (ds++gs)
 |[],_=>Nat.zero_le _
 |d::ds,gs=>by
  have:=zns ds gs
  simp only[List.cons_append,Rows.uptoBulkAll];omega
theorem own:ownKnob Tryd.prog.godebug=none:=by kernel_rfl
def zt7 (vs:List Value):Obj→Obj
 | .cells _ t frozen=> .cells vs.toArray t frozen
 |o=>o
noncomputable def zhw (os:Os):World:=
 {World.holding Tryd.prog os ⟨#[], #[],[]⟩with heap:=(World.holding Tryd.prog os ⟨#[], #[],[]⟩).heap.modify 0 (zt7 [.int .i64 0,.int .i64 0])}
end Go.Proofs.YtalbdmcklgglbaaDoor
namespace Go.Proofs.YtalbdmcklgglbaaDoor
open Go Go.Abs
theorem c9:Tryd.prog.cellsOf 9=1:=by kernel_rfl
theorem c57:Tryd.prog.cellsOf 48=4:=by kernel_rfl
theorem znV {n:Nat}:RdN n (fun _ d=>Rows.uptoBulk d) Tryd.prog 22 (List Str):=
 zfE (α:=Str) zcD Tryd.underlying22 (by rw[c9];decide) (RdN.of (zrG zcD Tryd.underlying9))
theorem zt4:∀{n:Nat},RdN n (fun _ d=>Rows.uptoBulk d) Tryd.prog 48 Abs.zac:=by
 intro n
 induction n with
 |zero=>intro H en w base spare held fuel cs x hd hsz hbk;omega
 |succ n ih=>
  intro H en w base spare held fuel cs x hd hsz hbk
  obtain⟨hlen,ps,k,hx,hf⟩:=ze7 Tryd.underlying48 hd
  obtain⟨x1,x2⟩:=x
  obtain rfl:x1= .agg ps:=hx
  rw[c57]at hlen
  obtain⟨a0,r0⟩:=zds (n:=n) (α:=Int) (o:=0) (s:=1) zcD hf 0 rfl rfl rfl (by kernel_rfl) (zrI rfl Tryd.underlying3) hsz hbk
  obtain⟨a1,r1⟩:=zds (n:=n) (α:=Str) (o:=1) (s:=1) zcD hf 1 rfl rfl rfl (by kernel_rfl) (RdN.of (zrG zcD Tryd.underlying9)) hsz hbk
  obtain⟨a2,r2⟩:=zds (n:=n) (α:=List Str) (o:=2) (s:=1) zcD hf 2 rfl rfl rfl (by kernel_rfl) znV hsz hbk
  obtain⟨a3,r3⟩:=zds (n:=n) (α:=List Abs.zac) (o:=3) (s:=1) zcD hf 3 rfl rfl rfl (by kernel_rfl) (zfE (α:=Abs.zac) zcD Tryd.underlying46 (by rw[c57];decide) ih) hsz hbk
  refine⟨.mk a0 a1 a2 a3,?_⟩
  rw[zbA]
  exact CR.part (o:=0) r0 (CR.part r1 (CR.part r2 (CR.part r3 (CR.fin hlen))))
end Go.Proofs.YtalbdmcklgglbaaDoor
namespace Go.Proofs.YtalbdmcklgglbaaDoor
open Go Go.Abs Go.RowKit Go.WideShapes Go.ChangeShapes Go.ChangeAt
theorem am {a b:Bool}(h1:a=true)(h2:b=true):(a&&b)=true:=by rw[h1,h2];rfl
theorem ztC:laidOutB Tryd.pinned.checked.prog=true:=by kernel_rfl
theorem zBU:mapsRowed Tryd.pinned.checked.prog=true:=by kernel_rfl
theorem zyF:(Tryd.pinned.checked.prog.stops==[])=true:=by kernel_rfl
theorem zyC:(Tryd.pinned.checked.prog.stopKnobs==[])=true:=by kernel_rfl
theorem zyB:Tryd.pinned.checked.prog.stopsHeard=true:=by kernel_rfl
theorem zyz:Tryd.pinned.checked.prog.mayEnter=true:=by kernel_rfl
theorem zBS:(Rows.discourseResolveMatchesSpecUptoRow.plainKeys==Tryd.pinned.checked.prog.plainKeys)=true:=by kernel_rfl
theorem zyD:(Rows.discourseResolveMatchesSpecUptoRow.lifted==Tryd.pinned.checked.prog.liftsFinal)=true:=by kernel_rfl
theorem zBT:(Tryd.pinned.checked.prog.make==some Rows.discourseResolveMatchesSpecUptoRow.make)=true:=by kernel_rfl
theorem zyE:false=Tryd.pinned.checked.prog.looks []:=by kernel_rfl
end Go.Proofs.YtalbdmcklgglbaaDoor
namespace Go.Proofs.YtalbdmcklgglbaaDoor
open Go Go.Abs
theorem zDv:Tryd.prog.cellsOf 50=7:=by kernel_rfl
theorem c25:Tryd.prog.cellsOf 25=2:=by kernel_rfl
theorem zzE:∀{n:Nat},RdN n (fun _ d=>Rows.uptoBulk d) Tryd.prog 25 Abs.Box∧RdN n (fun _ d=>Rows.uptoBulk d) Tryd.prog 50 Abs.zal:=by
 intro n
 induction n with
 |zero=>exact⟨fun{H en w base spare held fuel cs x} hd hsz hbk=>by omega,fun{H en w base spare held fuel cs x} hd hsz hbk=>by omega⟩
 |succ n ih=>
  constructor
  ·intro H en w base spare held fuel cs x hd hsz hbk
   obtain⟨hlen,ps,k,hx,hf⟩:=ze7 Tryd.underlying25 hd
   obtain⟨x1,x2⟩:=x
   obtain rfl:x1= .agg ps:=hx
   rw[c25]at hlen
   obtain⟨a0,r0⟩:=zds (n:=n) (α:=List Str) (o:=0) (s:=1) zcD hf 0 rfl rfl rfl (by kernel_rfl) znV hsz hbk
   obtain⟨a1,r1⟩:=zds (n:=n) (α:=List Abs.zal) (o:=1) (s:=1) zcD hf 1 rfl rfl rfl (by kernel_rfl) (zfE (α:=Abs.zal) zcD Tryd.underlying23 (by rw[zDv];decide) ih.2) hsz hbk
   refine⟨.mk a0 a1,?_⟩
   rw[zaQ]
   exact CR.part (o:=0) r0 (CR.part r1 (CR.fin hlen))
  ·intro H en w base spare held fuel cs x hd hsz hbk
   obtain⟨hlen,ps,k,hx,hf⟩:=ze7 Tryd.underlying50 hd
   obtain⟨x1,x2⟩:=x
   obtain rfl:x1= .agg ps:=hx
   rw[zDv]at hlen
   obtain⟨a0,r0⟩:=zds (n:=n) (α:=Int) (o:=0) (s:=1) zcD hf 0 rfl rfl rfl (by kernel_rfl) (zrI rfl Tryd.underlying3) hsz hbk
   obtain⟨a1,r1⟩:=zds (n:=n) (α:=Str) (o:=1) (s:=1) zcD hf 1 rfl rfl rfl (by kernel_rfl) (RdN.of (zrG zcD Tryd.underlying9)) hsz hbk
   obtain⟨a2,r2⟩:=zds (n:=n) (α:=Abs.zac) (o:=2) (s:=4) zcD hf 2 rfl rfl rfl (by kernel_rfl) zt4 hsz hbk
   obtain⟨a3,r3⟩:=zds (n:=n) (α:=List Abs.Box) (o:=6) (s:=1) zcD hf 3 rfl rfl rfl (by kernel_rfl) (zfE (α:=Abs.Box) zcD Tryd.underlying26 (by rw[c25];decide) ih.1) hsz hbk
   refine⟨.mk a0 a1 a2 a3,?_⟩
   rw[zbA]at r2
   rw[zcQ]
   exact CR.part (o:=0) r0 (CR.part r1 (CR.part r2 (CR.part r3 (CR.fin hlen))))
theorem zwz {n:Nat}:RdN n (fun _ d=>Rows.uptoBulk d) Tryd.prog 25 Abs.Box:=zzE.1
end Go.Proofs.YtalbdmcklgglbaaDoor
