/- several texts of this proof in one; no conditions -/
import Derived.Test.YtmconmiemdinkaaGreatDoorY1
import Derived.Test.YtmconmiemdinkaaGreatDoorA3
import Derived.Test.YtmconmiemdinkaaGreatDoorCards
import Derived.Test.YtmconmiemdinkaaGreatDoorTie
import Derived.WalkKit
import Derived.ProofKit
import Derived.OpenShut
import Derived.Deep.DeepHandedRow
import Derived.Lib.LaidTab
import Derived.Below
import Derived.Carry
import Derived.ChangeSame
import Derived.Test.YtmconmiemdinkaaGreatDoorY6
import Derived.Test.YtmconmiemdinkaaGreatDoorY15
set_option maxRecDepth 100000
set_option linter.unusedSimpArgs false
namespace Go.Proofs.YtmconmiemdinkaaGreatDoor
open Go Go.Abs Go.RowKit Go.WideShapes Go.ChangeShapes
theorem zph {H:Type}:∀(es:List (DataW H)),(∀d∈es,1≤Rows.uptoBulk d)→es.length≤Rows.uptoBulkAll es
 |[],_=>Nat.zero_le _
 |d::es,h=>by
  have h1:=h d (by simp)
  have h2:=zph es fun d hd=>h d (by simp[hd])
  simp only[List.length_cons,Rows.uptoBulkAll];omega
theorem zkM {H:Type}:∀(es:List (DataW H)) (d:DataW H),d∈es→Rows.uptoBulk d≤Rows.uptoBulkAll es
 |[],_,h=>by simp at h
 |e::es,d,h=>by
  simp only[Rows.uptoBulkAll]
  rcases List.mem_cons.1 h with rfl|h
  ·omega
  ·have:=zkM es d h;omega
theorem zvv {H:Type}(d:DataW H):1≤Rows.uptoBulk d:=by
 cases d with
 |lit l=>cases l<;>simp[Rows.uptoBulk]
 |_=>simp[Rows.uptoBulk]
theorem zcl:zlW (fun _ d=>Rows.uptoBulk d):=by
 refine⟨fun H b=>by simp[Rows.uptoBulk],fun H es sp=>?_,fun H es sp d hd=>?_,fun H ps d hd=>?_⟩
 ·have:=zph es fun d _=>zvv d
  simp only[Rows.uptoBulk];omega
 ·have:=zkM es d hd
  simp only[Rows.uptoBulk];omega
 ·have:=zkM ps d hd
  simp only[Rows.uptoBulk];omega
section
variable {H:Type} {en:TypeId×Value→H} {P:Program}
theorem zlr {f:Func}{s:ChangeSpec}{apart fresh handsOn again:Bool}{W W':World}{args:Array Value}{v:Value}{ds gs:List (DataW H)}{before pa pv:List MemPlace}
  (hW:DataW.Whole en P f.params.toList s.vars apart W args.toList ds gs before)
  (hres:∀(b:Nat) (sp:Nat→Bool) (hd:Bool),DataW.TrodAll en P W' b sp hd f.resultTypes.toList (v.resultList f.resultTypes.size) (s.fn H (ds++gs)).results [])
  (hargs:∀sp:Nat→Bool,(∀p∈before,sp p.block=true)→DataW.TrodAll en P W' 0 sp true f.params.toList args.toList (s.fn H (ds++gs)).args pa)
  (hvars:∀sp:Nat→Bool,(∀p∈before,sp p.block=true)→DataW.TrodVars en P W' sp s.vars (s.fn H (ds++gs)).vars pv)
  (hps:before=pa++pv)(hb:Below W.heap.size W W')
  (hok:∀(j:Nat) (t:TypeId) (r:Value),f.resultTypes[j]?=some t→(v.resultList f.resultTypes.size)[j]?=some r→Value.okWide P W' .any 0 t r):
  s.post en P f apart fresh handsOn again W args v W':=by
 have hlt:∀p∈before,p.block<W.heap.size:=fun p hp=>hW.lt p hp
 have hold:∀p∈before,(fun b=>decide (b<W.heap.size)) p.block=true:=fun p hp=>by simpa using hlt p hp
 refine⟨ds,gs,before,[],pa,pv,hW,hres _ _ _,hargs _ hold,hvars _ hold,World.keptBut_mono (fun p hp=>⟨hp,?_⟩) (hb.frame (· ∈before)),fun _=>?_⟩
 ·rw[hps,List.mem_append]at hp
  exact Or.inr hp
 ·obtain⟨_,_,_,_,_,hz,hn⟩:=hW
  refine⟨hok,_,_,([]++pa)++pv,⟨[]++pa,pv,trodAll_append (hargs _ (fun _ _=>rfl)) (hres _ _ _),hvars _ (fun _ _=>rfl),rfl,?_,?_⟩,?_⟩
  ·intro b off hp
   have hin:MemPlace.cell b off∈before:=by rw[hps];simpa using hp
   rw[hb.frozen (hlt _ hin)]
   exact hz b off hin
  ·intro ha
   have:=hn ha
   rw[hps]at this
   simpa using this
  ·intro p hp _
   rw[hps]
   simpa using hp
end
theorem zzb:laidOutB Tryz.prog=true:=by kernel_rfl
theorem zBE:Tryz.prog.globalNamed "glosswright/glosswrightlaw2.none" =some 0:=by kernel_rfl
theorem zti:(Tryz.prog.globals[0]?).map (·.type)=some 32:=by kernel_rfl
theorem zv7:(Tryz.prog.globals[1]?).map (·.type)=some 172:=by kernel_rfl
theorem zMe:Tryz.prog.underlying 172=some (.array 20 136):=by kernel_rfl
theorem zMf:Tryz.prog.underlying 136=some (.int .u64):=by kernel_rfl
theorem zJi:Tryz.prog.cellsOf 172=20:=by kernel_rfl
theorem zJj:Tryz.prog.cellsOf 136=1:=by kernel_rfl
theorem zld {P:Program}{W:World}{n:String}{d:DataW Unit}:∀{l:List (String×DataW Unit)} {ps:List MemPlace},DataW.LaidVars P W l ps→(n,d)∈l→
  ∃g t cs fuel p,P.globalNamed n=some g∧(P.globals[g]?).map (·.type)=some t∧W.var? P n=some cs∧DataW.trod (fun _=>()) P W 0 (fun _=>true) false fuel t cs.toList=some (d,p)
 |(n',d')::r,ps,h,hm=>by
  obtain⟨g,t,cs,fuel,p,q,h1,h2,h3,h4,h5,_⟩:=h
  rcases List.mem_cons.1 hm with e|hm
  ·obtain⟨rfl,rfl⟩:=Prod.mk.inj e
   exact⟨g,t,cs,fuel,p,h1,h2,h3,h4⟩
  ·exact zld h5 hm
theorem zqp {P:Program}{W:World}{n:String}{g:Nat}{cs:Array Value}(hg:P.globalNamed n=some g)(h:W.var? P n=some cs):g<W.heap.size∧∃T fr,W.heap[g]?=some (.cells cs T fr):=by
 simp only[World.var?,hg,Option.bind_some]at h
 split at h
 ·rename_i c t fr hb
  cases h
  refine⟨?_,t,fr,hb⟩
  rcases Nat.lt_or_ge g W.heap.size with h|h
  ·exact h
  ·rw[Array.getElem?_eq_none h]at hb;cases hb
 ·cases h
theorem zt5:∀z∈Lib.pow10Tab,IntKind.min .u64≤z∧z≤IntKind.max .u64:=by decide
theorem zk7 {l:List (String×DataW Unit)}{W:World}(h:laidMet Tryz.prog l W)(m0:("glosswright/glosswrightlaw2.none",Rows.laid_glosswright_glosswrightlaw2_none)∈l)(m1:("internal/strconv.uint64pow10",Rows.laid_internal_strconv_uint64pow10)∈l):
  ∀g,GA g≠[]→g<W.heap.size∧∃cs T fr,W.heap[g]?=some (.cells cs T fr)∧cs.size=(GA g).length∧∀j,j<(GA g).length→∃v,cs[j]?=some v∧za8 W (zlU W) v ((GA g).getD j .nilf):=by
 intro g hg
 obtain⟨ps,hl,_⟩:=h
 have hcase:g=0∨g=1:=by
  by_cases e:g=0
  ·exact .inl e
  ·by_cases e1:g=1
   ·exact .inr e1
   ·exact absurd (by simp[GA,e,e1]) hg
 rcases hcase with rfl|rfl
 ·obtain⟨g',t',cs,fuel,p,hg',ht',hvar,hd⟩:=zld hl m0
  obtain rfl:=Option.some.inj (zBE.symm.trans hg')
  obtain rfl:=Option.some.inj (zti.symm.trans ht')
  obtain⟨hsz,T,fr,hb⟩:=zqp zBE hvar
  cases fuel with
  |zero=>simp[DataW.trod]at hd
  |succ fuel=>
   simp only[DataW.trod,Tryz.underlying32]at hd
   have c25:Tryz.prog.cellsOf 32=2:=by kernel_rfl
   have c3:Tryz.prog.cellsOf 3=1:=by kernel_rfl
   split at hd
   case isFalse=>cases hd
   rename_i hlen
   rw[c25]at hlen
   obtain⟨u0,u1,hcs⟩:∃u0 u1,cs.toList=[u0,u1]:=by
    match hc:cs.toList,hlen with
    |[a,b],_=>exact⟨a,b,rfl⟩
   rw[hcs]at hd
   simp only[List.mapM_cons,List.mapM_nil,c3,List.drop_zero,List.take_succ_cons,List.take_zero,List.drop_succ_cons,Option.map_eq_some_iff,Option.bind_eq_bind,Option.bind_eq_some_iff,Option.pure_def,Option.some.injEq,Prod.mk.injEq]at hd
   obtain⟨xs,⟨x0,h0,ys,⟨x1,h1,zs,hz,rfl⟩,rfl⟩,e1,_⟩:=hd
   subst hz
   obtain⟨n0,k0,rfl,_⟩:=DataW.trod_int Tryz.underlying3 h0
   obtain⟨n1,k1,rfl,_⟩:=DataW.trod_int Tryz.underlying3 h1
   simp only[List.cons.injEq,and_true]at k0 k1
   subst k0
   subst k1
   simp only[List.map_cons,List.map_nil,Rows.laid_glosswright_glosswrightlaw2_none,DataW.agg.injEq,List.cons.injEq,DataW.lit.injEq,Lit.int.injEq,true_and,and_true]at e1
   obtain⟨rfl,rfl⟩:=e1
   have hca:cs= #[.int .i64 0,.int .i64 0]:=by rw[←Array.toArray_toList (xs:=cs),hcs]
   subst hca
   refine⟨hsz,_,T,fr,hb,rfl,fun j hj=>⟨.int .i64 0,?_,?_⟩⟩
   ·have:j=0∨j=1:=by simp[GA]at hj;omega
    rcases this with rfl|rfl<;>rfl
   ·have:j=0∨j=1:=by simp[GA]at hj;omega
    rcases this with rfl|rfl
    ·exact .i .i64 0 (by decide) (by decide)
    ·exact .i .i64 0 (by decide) (by decide)
 ·obtain⟨g',t',cs,fuel,p,hg',ht',hvar,hd⟩:=zld hl m1
  obtain rfl:=Option.some.inj (zlM.symm.trans hg')
  obtain rfl:=Option.some.inj (zv7.symm.trans ht')
  obtain⟨hsz,T,fr,hb⟩:=zqp zlM hvar
  have hcs:cs.toList=Lib.pow10Tab.map fun z=>Value.int .u64 z:=Lib.cells_of_tab (zs:=Lib.pow10Tab) zMe zMf zJj zJi hd
  have hca:cs=(Lib.pow10Tab.map fun z=>Value.int .u64 z).toArray:=by rw[←Array.toArray_toList (xs:=cs),hcs]
  subst hca
  have hga:GA 1=Lib.pow10Tab.map (.i .u64):=rfl
  refine⟨hsz,_,T,fr,hb,by rw[hga,List.size_toArray,List.length_map,List.length_map],fun j hj=>?_⟩
  rw[hga,List.length_map]at hj
  refine⟨.int .u64 Lib.pow10Tab[j],?_,?_⟩
  ·rw[List.getElem?_toArray,List.getElem?_map,List.getElem?_eq_getElem hj];rfl
  ·rw[hga,List.getD_eq_getElem?_getD,List.getElem?_map,List.getElem?_eq_getElem hj]
   have:=zt5 _ (List.getElem_mem hj)
   exact .i .u64 _ this.1 this.2
open Go.ChangeAt in
theorem zpg {H:Type}:∀(ds gs:List (DataW H)),Rows.uptoBulkAll ds≤Rows.uptoBulkAll (ds++gs)
 |[],_=>Nat.zero_le _
 |d::ds,gs=>by
  have:=zpg ds gs
  simp only[List.cons_append,Rows.uptoBulkAll];omega
theorem own:ownKnob Tryz.prog.godebug=none:=by kernel_rfl
def zhZ (vs:List Value):Obj→Obj
 | .cells _ t frozen=> .cells vs.toArray t frozen
 |o=>o
def zvt:List Int:=[0,1,28,2,29,14,24,3,30,22,20,15,25,17,4,8,31,27,13,23,21,19,16,7,26,12,18,6,11,5,10,9]
def zvu:List Int:=[0,1,56,2,57,49,28,3,61,58,42,50,38,29,17,4,62,47,59,36,45,43,51,22,53,39,33,30,24,18,12,5,63,55,48,27,60,41,37,16,46,35,44,21,52,32,23,11,54,26,40,15,34,20,31,10,25,14,19,9,13,8,7,6]
noncomputable def ziH (os:Os):World:=
 {World.holding Tryz.prog os ⟨#[], #[],[]⟩with heap:=((((World.holding Tryz.prog os ⟨#[], #[],[]⟩).heap.modify 0 (zhZ [.int .i64 0,.int .i64 0])).modify 1 (zhZ (Lib.pow10Tab.map fun z=> .int .u64 z))).modify 3 (zhZ (zvt.map fun z=> .int .u8 z))).modify 4 (zhZ (zvu.map fun z=> .int .u8 z))}
end Go.Proofs.YtmconmiemdinkaaGreatDoor
namespace Go.Proofs.YtmconmiemdinkaaGreatDoor
open Go Go.Abs
theorem c9:Tryz.prog.cellsOf 9=1:=by kernel_rfl
theorem c57:Tryz.prog.cellsOf 37=4:=by kernel_rfl
theorem zp1 {n:Nat}:RdN n (fun _ d=>Rows.uptoBulk d) Tryz.prog 24 (List Str):=
 zgu (α:=Str) zcl Tryz.underlying24 (by rw[c9];decide) (RdN.of (znj zcl Tryz.underlying9))
theorem zwG:∀{n:Nat},RdN n (fun _ d=>Rows.uptoBulk d) Tryz.prog 37 Abs.zac:=by
 intro n
 induction n with
 |zero=>intro H en w base spare held fuel cs x hd hsz hbk;omega
 |succ n ih=>
  intro H en w base spare held fuel cs x hd hsz hbk
  obtain⟨hlen,ps,k,hx,hf⟩:=zev Tryz.underlying37 hd
  obtain⟨x1,x2⟩:=x
  obtain rfl:x1= .agg ps:=hx
  rw[c57]at hlen
  obtain⟨a0,r0⟩:=zdz (n:=n) (α:=Int) (o:=0) (s:=1) zcl hf 0 rfl rfl rfl (by kernel_rfl) (zzs rfl Tryz.underlying3) hsz hbk
  obtain⟨a1,r1⟩:=zdz (n:=n) (α:=Str) (o:=1) (s:=1) zcl hf 1 rfl rfl rfl (by kernel_rfl) (RdN.of (znj zcl Tryz.underlying9)) hsz hbk
  obtain⟨a2,r2⟩:=zdz (n:=n) (α:=List Str) (o:=2) (s:=1) zcl hf 2 rfl rfl rfl (by kernel_rfl) zp1 hsz hbk
  obtain⟨a3,r3⟩:=zdz (n:=n) (α:=List Abs.zac) (o:=3) (s:=1) zcl hf 3 rfl rfl rfl (by kernel_rfl) (zgu (α:=Abs.zac) zcl Tryz.underlying30 (by rw[c57];decide) ih) hsz hbk
  refine⟨.mk a0 a1 a2 a3,?_⟩
  rw[zaz]
  exact CR.part (o:=0) r0 (CR.part r1 (CR.part r2 (CR.part r3 (CR.fin hlen))))
end Go.Proofs.YtmconmiemdinkaaGreatDoor
namespace Go.Proofs.YtmconmiemdinkaaGreatDoor
open Go Go.Abs Go.RowKit Go.WideShapes Go.ChangeShapes Go.ChangeAt
theorem am {a b:Bool}(h1:a=true)(h2:b=true):(a&&b)=true:=by rw[h1,h2];rfl
theorem zwi:laidOutB Tryz.pinned.checked.prog=true:=by kernel_rfl
theorem zFp:mapsRowed Tryz.pinned.checked.prog=true:=by kernel_rfl
theorem zBU:(Tryz.pinned.checked.prog.stops==[])=true:=by kernel_rfl
theorem zBR:(Tryz.pinned.checked.prog.stopKnobs==[])=true:=by kernel_rfl
theorem zBQ:Tryz.pinned.checked.prog.stopsHeard=true:=by kernel_rfl
theorem zBO:Tryz.pinned.checked.prog.mayEnter=true:=by kernel_rfl
theorem zFn:(Rows.scopeMoreConstraintsUptoRow.plainKeys==Tryz.pinned.checked.prog.plainKeys)=true:=by kernel_rfl
theorem zBS:(Rows.scopeMoreConstraintsUptoRow.lifted==Tryz.pinned.checked.prog.liftsFinal)=true:=by kernel_rfl
theorem zFo:(Tryz.pinned.checked.prog.make==some Rows.scopeMoreConstraintsUptoRow.make)=true:=by kernel_rfl
theorem zBT:false=Tryz.pinned.checked.prog.looks []:=by kernel_rfl
end Go.Proofs.YtmconmiemdinkaaGreatDoor
namespace Go.Proofs.YtmconmiemdinkaaGreatDoor
open Go Go.Abs
theorem zxm:Tryz.prog.cellsOf 47=5:=by kernel_rfl
theorem zBf:Tryz.prog.cellsOf 28=2:=by kernel_rfl
theorem zyf:Tryz.prog.cellsOf 26=3:=by kernel_rfl
theorem zt8 {n:Nat}:RdN n (fun _ d=>Rows.uptoBulk d) Tryz.prog 47 Abs.zb8:=by
 cases n with
 |zero=>intro H en w base spare held fuel cs x hd hsz hbk;omega
 |succ n=>
  intro H en w base spare held fuel cs x hd hsz hbk
  obtain⟨hlen,ps,k,hx,hf⟩:=zev Tryz.underlying47 hd
  obtain⟨x1,x2⟩:=x
  obtain rfl:x1= .agg ps:=hx
  rw[zxm]at hlen
  obtain⟨a0,r0⟩:=zdz (n:=n) (α:=Str) (o:=0) (s:=1) zcl hf 0 rfl rfl rfl (by kernel_rfl) (RdN.of (znj zcl Tryz.underlying9)) hsz hbk
  obtain⟨a1,r1⟩:=zdz (n:=n) (α:=Abs.zac) (o:=1) (s:=4) zcl hf 1 rfl rfl rfl (by kernel_rfl) zwG hsz hbk
  refine⟨⟨a0,a1⟩,?_⟩
  rw[zaz]at r1
  rw[zmu]
  exact CR.part (o:=0) r0 (CR.part r1 (CR.fin hlen))
theorem zwH {n:Nat}:RdN n (fun _ d=>Rows.uptoBulk d) Tryz.prog 28 Abs.znX:=by
 cases n with
 |zero=>intro H en w base spare held fuel cs x hd hsz hbk;omega
 |succ n=>
  intro H en w base spare held fuel cs x hd hsz hbk
  obtain⟨hlen,ps,k,hx,hf⟩:=zev Tryz.underlying28 hd
  obtain⟨x1,x2⟩:=x
  obtain rfl:x1= .agg ps:=hx
  rw[zBf]at hlen
  obtain⟨a0,r0⟩:=zdz (n:=n) (α:=Str) (o:=0) (s:=1) zcl hf 0 rfl rfl rfl (by kernel_rfl) (RdN.of (znj zcl Tryz.underlying9)) hsz hbk
  obtain⟨a1,r1⟩:=zdz (n:=n) (α:=Str) (o:=1) (s:=1) zcl hf 1 rfl rfl rfl (by kernel_rfl) (RdN.of (znj zcl Tryz.underlying9)) hsz hbk
  refine⟨⟨a0,a1⟩,?_⟩
  rw[zpC]
  exact CR.part (o:=0) r0 (CR.part r1 (CR.fin hlen))
theorem zrD {n:Nat}:RdN n (fun _ d=>Rows.uptoBulk d) Tryz.prog 26 Abs.zar:=by
 cases n with
 |zero=>intro H en w base spare held fuel cs x hd hsz hbk;omega
 |succ n=>
  intro H en w base spare held fuel cs x hd hsz hbk
  obtain⟨hlen,ps,k,hx,hf⟩:=zev Tryz.underlying26 hd
  obtain⟨x1,x2⟩:=x
  obtain rfl:x1= .agg ps:=hx
  rw[zyf]at hlen
  obtain⟨a0,r0⟩:=zdz (n:=n) (α:=List Abs.zb8) (o:=0) (s:=1) zcl hf 0 rfl rfl rfl (by kernel_rfl) (zgu (α:=Abs.zb8) zcl Tryz.underlying22 (by rw[zxm];decide) zt8) hsz hbk
  obtain⟨a1,r1⟩:=zdz (n:=n) (α:=List Abs.znX) (o:=1) (s:=1) zcl hf 1 rfl rfl rfl (by kernel_rfl) (zgu (α:=Abs.znX) zcl Tryz.underlying23 (by rw[zBf];decide) zwH) hsz hbk
  obtain⟨a2,r2⟩:=zdz (n:=n) (α:=List Str) (o:=2) (s:=1) zcl hf 2 rfl rfl rfl (by kernel_rfl) zp1 hsz hbk
  refine⟨⟨a0,a1,a2⟩,?_⟩
  rw[zdm]
  exact CR.part (o:=0) r0 (CR.part r1 (CR.part r2 (CR.fin hlen)))
end Go.Proofs.YtmconmiemdinkaaGreatDoor
