import Derived.Calls
import Derived.Orders
import Derived.Laws.World
import Derived.Laws.Cells
import Derived.Laws.Slices
import Derived.Laws.Append
import Derived.Laws.StructEq
import Derived.Laws.Strings
import Derived.Laws.Entries
import Derived.KernelRfl
/- a framework of my own: an abstract walk over the machine, part 1; no conditions -/
set_option linter.defProp false
namespace Go.Abs
def au:=@And.intro
def av:=@List.getD_eq_getElem?_getD
def ay:=@List.getElem?_eq_getElem
def az:=@if_neg
def aA:=@Nat.lt_or_ge
def aB:=@List.take_succ_eq_append_getElem
def aC:=@Nat.lt_irrefl
def aD:=@List.length_append
def aE:=@List.map_append
def aF:=@if_pos
def aG:=@List.length_map
def aI:=@Nat.le_refl
def aJ:=@List.take_length
def aK:=@List.nil_append
def aL:=@Option.some.injEq
def aM:=@List.map_cons
def aN:=@List.length_cons
def aO:=@List.mem_append
def aP:=@eq_false
def aQ:=@List.map_nil
def aR:=@List.drop_eq_getElem_cons
def aS:=@Bool.and_eq_true
def aT:=@List.getElem_mem
def aU:=@eq_true
def aV:=@List.mem_cons
def aW:=@decide_eq_false
def aX:=@List.length_take
def aY:=@Prod.mk.injEq
def aZ:=@List.not_mem_nil
def a6:=@List.cons_append
def a7:=@List.mem_singleton
def a8:=@congrArg
def ba:=@decide_eq_true
def bc:=@Go.run_underlying
def be:=@List.mem_map
def bi:=@decide_eq_true_eq
def bj:=@List.length_nil
def bm:=@List.take_succ_cons
def bo:=@Int.toNat_natCast
def bp:=@List.getElem?_map
def bq:=@Option.some.inj
def bu:=@List.append_assoc
def bv:=@List.take_zero
def bz:=@Nat.le_trans
def bB:=@List.map_congr_left
def bC:=@List.drop_zero
def bD:=@Option.getD_some
def bE:=@Nat.zero_add
def bG:=@List.eq_nil_of_length_eq_zero
def bH:=@List.drop_succ_cons
def bI:=@List.getElem_of_mem
def bJ:=@Nat.add_zero
def bK:=@Bool.false_eq_true
def bL:=@Option.map_some
def bM:=@List.set_cons_succ
def bN:=@Option.map_eq_some_iff
def bO:=@of_decide_eq_true
def bP:=@List.append_nil
def bQ:=@List.foldl_cons
def bS:=@List.set_cons_zero
def bT:=@Decidable.not_not
def bU:=@List.length_singleton
def bV:=@List.take_of_length_le
def bW:=@Nat.mul_le_mul_right
def bX:=@List.map_map
def cd:=@if_false
def ce:=@List.getElem?_append_right
def cg:=@List.mem_cons_of_mem
def ci:=@Nat.add_mul
def cj:=@Nat.eq_zero_or_pos
def ck:=@Int.lt_irrefl
def cm:=@List.getElem_map
def cq:=@Int.toNat_zero
def cr:=@Nat.pow_le_pow_left
def ct:=@or_false
def cu:=@Array.getD_eq_getD_getElem?
def cx:=@List.mem_append_left
def cz:=@Nat.add_assoc
def cB:=@List.all_eq_true
def cC:=@List.ext_getElem
def cD:=@List.mem_filter
def cE:=@List.length_replicate
def cF:=@Nat.pow_succ
def cG:=@Array.length_toList
def cH:=@Int.toNat_one
def cJ:=@if_true
def cK:=@List.isEmpty_iff
def cL:=@List.drop_eq_nil_of_le
def cM:=@Nat.sub_self
def cO:=@Nat.lt_of_lt_of_le
def cP:=@List.mem_append_right
def cQ:=@List.take_append_drop
def cR:=@List.mem_map_of_mem
def cU:=@List.flatMap_cons
def cV:=@Go.Result.andThen_ok
def cY:=@List.length_set
def cZ:=@Bool.true_and
def c5:=@List.getElem_append_left
def da:=@Bool.false_or
def db:=@List.cons.injEq
def de:=@List.drop_of_length_le
def df:=@Nat.mul_comm
def dh:=@List.getElem?_append_left
def di:=@List.getD_cons_succ
def dl:=@Nat.add_sub_cancel
def dm:=@Nat.pow_le_pow_right
def dq:=@List.foldl_append
def dr:=@List.getD_cons_zero
def du:=@Nat.div_add_mod
def dw:=@List.getElem?_eq_some_iff
def dx:=@List.mem_of_find?_eq_some
def dy:=@List.pairwise_iff_getElem
def dz:=@List.pairwise_cons
def dA:=@Nat.mod_eq_of_lt
def dE:=@List.mem_of_mem_take
def dF:=@List.replicate_succ'
def dG:=@Go.Sem.run_bind
def dQ:=@List.map_drop
def dR:=@List.map_take
def dU:=@Bool.false_and
def dV:=@List.foldl_nil
def dW:=@List.mem_range
def dY:=@Nat.eq_or_lt_of_le
def ee:=@Classical.byContradiction
def ej:=@Nat.mul_add
def ew:=@Array.setIfInBounds_comm
def ez:=@Nat.mod_lt
def eA:=@Go.Obj.cells.injEq
def eK:=@Bool.and_false
def eM:=@List.zipIdx_cons
def eN:=@Nat.mul_le_mul
def eQ:=@List.getElem_replicate
def eU:=@Nat.min_eq_left
def eW:=@Go.ready_mono
def e9:=@Nat.div_lt_of_lt_mul
def fe:=@List.drop_length
def ff:=@List.mem_flatMap
def fm:=@List.getElem?_range
def fp:=@List.replicate_succ
def fq:=@List.replicate_zero
def fx:=@List.cons.inj
def fC:=@List.range_succ
def fE:=@Array.ext_getElem?
def fF:=@eq_iff_iff
def fN:=@Int.le_refl
def fO:=@Nat.mul_one
def fP:=@Option.bind_eq_some_iff
def fX:=@Array.getElem?_eq_none
def fY:=@Bool.true_or
def fZ:=@List.map_set
def gf:=@List.range_succ_eq_map
def gh:=@List.zipWith_cons_cons
def gk:=@List.getElem_set_self
def gl:=@List.set_append_right
def gm:=@Go.Oper.wp_mono
def gn:=@Go.Sem.run_pure
def gp:=@Nat.div_eq_of_lt
def gq:=@Nat.lt_succ_self
def gB:=@Bool.or_false
def gJ:=@Array.toArray_toList
def gK:=@List.map_id
def gL:=@Nat.zero_le
def gR:=@Bool.eq_iff_iff
def gS:=@Int.natCast_add
def gY:=@List.getElem_mapIdx
def gZ:=@Nat.mul_le_mul_left
def ib:=@Array.getElem?_append_right
def ic:=@getElem!_pos
def io:=@true_and
def iA:=@List.getElem_append_right
def iB:=@Go.mem_ready
def iI:=@Bool.not_eq_true'
def iJ:=@List.all_eq_false
def iK:=@List.pairwise_map
def iR:=@Bool.and_true
def jb:=@List.any_eq_true
def jc:=@List.length_drop
def jd:=@List.length_eq_zero_iff
def je:=@or_assoc
def jm:=@List.getElem_cons_succ
def jo:=@Nat.add_comm
def jv:=@Nat.mul_add_div
def jx:=@Nat.mul_add_mod
def jF:=@List.getElem?_eq_none
def jG:=@List.length_filter_le
def jS:=@Go.wp_mono
def jY:=@Bool.not_false
def jZ:=@Nat.one_mul
def j0:=@decide_true
def lL:=@List.flatMap_append
def lQ:=@Bool.not_true
def lR:=@Go.Sem.run_ite
def lS:=@Go.run_program
def l7:=@List.getElem?_take
def l8:=@List.mem_replicate
def l9:=@UInt8.toNat_ofNat'
def mb:=@of_decide_eq_false
def mo:=@Array.getElem?_setIfInBounds_self
def mp:=@Go.ByteArray.toList_eq
def mI:=@List.getElem_take
def mJ:=@List.length_range
def mK:=@List.set_set
def mL:=@Nat.le_of_eq
def mM:=@Nat.le_of_lt
def mN:=@Nat.le_of_lt_succ
def mO:=@Nat.lt_trichotomy
def nE:=@Int.natCast_ediv
def nF:=@List.filter_cons
def nG:=@List.flatMap_nil
def nH:=@List.getElem_set
def nI:=@Nat.le_add_right
def nJ:=@Option.bind_some
def nK:=@decide_eq_decide
end Go.Abs
namespace Go.Abs
theorem ae {p:Prop}(h:p:=by omega):p:=h
theorem af {p:Prop}(h:p:=by simp only;omega):p:=h
theorem ah {p:Prop}(h:p:=by kernel_rfl):p:=h
theorem ai {p:Prop}(h:p:=by decide):p:=h
theorem aj {p:Prop}(h:p:=by simp only[go_sem]):p:=h
theorem ak {p:Prop}(h:p:=by simp):p:=h
theorem ao {p:Prop}(h:p:=by simp;omega):p:=h
theorem ap {p:Prop}(h:p:=by grind):p:=h
theorem aq {p:Prop}(h:p:=by simp_all):p:=h
theorem qQa {p:Prop}(h:p:=by simp only[aG,aX,aD,aN,bj];omega):p:=h
theorem qQb {p:Prop}(h:p:=by first|omega|(simp only[aG,aD,aN,bj];omega)):p:=h
theorem qQc {p:Prop}(h:p:=by first|omega|(simp only[aG,aX,jc,aD,aN,bj];omega)):p:=h
theorem qQd {p:Prop}(h:p:=by unfold dt;simp only[aD,aN,bj];omega):p:=h
theorem qQe {p:Prop}(h:p:=by rw[←hx];exact aT h1):p:=h
theorem qQf {p:Prop}(h:p:=by have h:=hw;rw[jf]at h;exact h):p:=h
theorem qQg {p:Prop}(h:p:=by simp[Instr.sliceAt,bc hu,Instr.slice,hb,oK he];rfl):p:=h
theorem qQh {p:Prop}(h:p:=by simpa using h):p:=h
theorem qQi {p:Prop}(h:p:=by rfl):p:=h
theorem qQj {p:Prop}(h:p:=by rw[←hf];exact aT h1):p:=h
theorem qQk {p:Prop}(h:p:=by simp_all[jy]):p:=h
theorem qQl {p:Prop}(h:p:=by simp only[go_sem,lE]):p:=h
theorem qQm {p:Prop}(h:p:=by have:=hp.gd.v.s1;omega):p:=h
theorem qQn {p:Prop}(h:p:=by have:=aH.size_sub hg;omega):p:=h
theorem qQo {p:Prop}(h:p:=by simp only[aD,bU];omega):p:=h
theorem qQp {p:Prop}(h:p:=by simp only[go_sem];rfl):p:=h
theorem qQq {p:Prop}(h:p:=by unfold mZ;omega):p:=h
theorem qQr {p:Prop}(h:p:=by simp[fj]):p:=h
theorem qQs {p:Prop}(h:p:=by unfold gw;simp):p:=h
theorem qQt {p:Prop}(h:p:=by unfold Ub;simp):p:=h
theorem qQu {p:Prop}(h:p:=by simp only[go_sem,HHc]):p:=h
theorem qQv {p:Prop}(h:p:=by cases hb:b.used with|nil=>rw[hb]at h2;simp at h2|cons=>rfl):p:=h
theorem qQw {p:Prop}(h:p:=by simp[Builtin.len_,ht,bc (wA hti he),goInt]):p:=h
theorem qQx {p:Prop}(h:p:=by rw[(fU.1 hx).2.2.2.2.2.1 hk];omega):p:=h
theorem qQy {p:Prop}(h:p:=by rw[hgt];rfl):p:=h
theorem qQz {p:Prop}(h:p:=by rw[aD];omega):p:=h
theorem qQ0 {p:Prop}(h:p:=by rw[mq];exact h):p:=h
theorem qQ1 {p:Prop}(h:p:=by rw[hms];first|omega|(simp only[aD,aN,bj];omega)):p:=h
theorem qQ2 {p:Prop}(h:p:=by simp_all[aB]):p:=h
theorem qQ3 {p:Prop}(h:p:=by rw[show i-(q+1)=p by omega];exact hT.1 h11):p:=h
theorem qQ4 {p:Prop}(h:p:=by simpa using h2):p:=h
theorem qQ5 {p:Prop}(h:p:=by rw[dec_enc]):p:=h
theorem qQ6 {p:Prop}(h:p:=by rw[aG];omega):p:=h
theorem qQ7 {p:Prop}(h:p:=by show _≤(18446744073709551615:Int);omega):p:=h
theorem qQ8 {p:Prop}(h:p:=by rw[show(u2.map fun a=>D.fz (enc a))=(u2.map enc).map .fz by simp];exact IC _):p:=h
theorem qQ9 {p:Prop}(h:p:=by unfold dt;omega):p:=h
theorem qWa {p:Prop}(h:p:=by simp only[bw];exact⟨[],rfl,trivial⟩):p:=h
theorem qWb {p:Prop}(h:p:=by have:=hp.s;omega):p:=h
theorem qWc {p:Prop}(h:p:=by rw[show p+1=i-q by omega];exact hpq):p:=h
theorem qWd {p:Prop}(h:p:=by rw[←hk]):p:=h
theorem qWe {p:Prop}(h:p:=by rw[hL']):p:=h
theorem qWf {p:Prop}(h:p:=by unfold okc mZ;omega):p:=h
theorem qWg {p:Prop}(h:p:=by simpa using hj):p:=h
theorem qWh {p:Prop}(h:p:=by simp[hc]):p:=h
end Go.Abs
set_option linter.unusedSimpArgs false
namespace Go.Abs
open Go
inductive FD where
 |b (x:Bool)
 |i (k:IntKind) (n:Int)
 |s (x:List UInt8)
 |sl (xs:List FD)
 |agg (xs:List FD)
 |nilf
 deriving Inhabited
def FD.cells:FD→List FD
 | .agg xs=>xs
 |x=>[x]
abbrev Id:=Nat×Nat
structure LP where
 b:Nat
 o:Nat
 v:Bool
abbrev Loc:=Id→LP
inductive D where
 |junk
 |fz (x:FD)
 |full (xs:List FD)
 |rp (xs:List FD)
 |ptr (id:Id) (off:Nat)
 |arr (id:Id) (es s len:Nat)
 |ow (id:Id) (es:Nat) (xs:List FD)
 |fn (f:FuncId) (caps:List D)
 |agg (xs:List D)
 |tup (xs:List D)
 deriving Inhabited
structure O where
 cells:List D
 box:Bool
 virt:Bool
abbrev bR:=Id→Option O
def dt:Nat:=2^48
def World.at (w:World)(b k:Nat):Option Value:=w.cell? ⟨b,k,none⟩
inductive dD (w:World)(F:Nat→Nat→Prop):Value→FD→Prop
 |b (x):dD w F (.bool x) (.b x)
 |i (k n):k.min≤n→n≤k.max→dD w F (.int k n) (.i k n)
 |s (x:ByteArray):x.size≤dt→dD w F (.string x) (.s x.data.toList)
 |nilf:dD w F .nilFunc .nilf
 |sl0 (a cap):dD w F (.slice a 0 cap) (.sl [])
 |sl (b off cap es) (xs:List FD) (vs:Nat→Nat→Value):xs.length≤cap→xs.length≤dt→
   (∀k,k<xs.length*es→F b (off+k))→
   (∀i,i<xs.length→(xs.getD i .nilf).cells.length=es)→
   (∀i j,i<xs.length→j<es→World.at w b (off+i*es+j)=some (vs i j))→
   (∀i j,i<xs.length→j<es→dD w F (vs i j) ((xs.getD i .nilf).cells.getD j .nilf))→
   dD w F (.slice (some ⟨b,off,none⟩) xs.length cap) (.sl xs)
 |agg (vs:List Value) (xs:List FD):vs.length=xs.length→
   (∀j,j<xs.length→dD w F (vs.getD j undef) (xs.getD j .nilf))→dD w F (.agg vs.toArray) (.agg xs)
theorem vJ {n es i j:Nat}(hi:i<n)(hj:j<es):i*es+j<n*es:=by
 calc i*es+j<i*es+es:=ae
  _=(i+1)*es:=ap
  _≤n*es:=bW _ hi
theorem dD.mono {w w':World}{F F':Nat→Nat→Prop}{v x}(h:dD w F v x)(hb:∀b k,F b k→World.at w' b k=World.at w b k)(hF:∀b k,F b k→F' b k):
  dD w' F' v x:=by
 induction h with
 |b x=>exact .b x
 |i k n h1 h2=>exact .i k n h1 h2
 |s x h=>exact .s x h
 |nilf=>exact .nilf
 |sl0 a cap=>exact .sl0 a cap
 |sl b off cap es xs vs h1 h2 h3 h5 h6 _ ih=>exact .sl b off cap es xs vs h1 h2 ap h5 (fun i j hi hj=>(hb _ _ (by simp_all[cz,vJ])).trans (h6 i j hi hj)) ih
 |agg vs xs h1 _ ih=>exact .agg vs xs h1 ih
mutual
def bw (w:World)(L:Loc)(F:Nat→Nat→Prop)(U:Id→Prop):D→Value→Prop
 | .junk,_=>True
 | .fz x,v=>dD w F v x
 | .full xs,v=>∃a,v= .slice a xs.length xs.length∧dD w F v (.sl xs)
 | .rp xs,v=>∃b off,v= .pointer (some ⟨b,off,none⟩)∧
   ∀j,j<xs.length→F b (off+j)∧∃u,World.at w b (off+j)=some u∧dD w F u (xs.getD j .nilf)
 | .ptr id k,v=>U id∧(L id).1<w.heap.size∧v= .pointer (some ⟨(L id).1,(L id).2+k,none⟩)
 | .arr id es s len,v=>U id∧∃a cap,v= .slice a len cap∧len≤cap∧len≤dt∧
   (cap=0∨(a=some ⟨(L id).1,(L id).2+s,none⟩∧(L id).3=false∧(L id).1<w.heap.size∧
    ∀cs T fr,w.heap[(L id).1]?=some (.cells cs T fr)→(L id).2+s+cap*es≤cs.size))
 | .ow id es xs,v=>U id∧dD w F v (.sl xs)∧∃a cap,v= .slice a xs.length cap∧
   (cap=xs.length∨∃b off,a=some ⟨b,off,none⟩∧L id=⟨b,off+xs.length*es,false⟩∧b<w.heap.size∧
    ∀cs T fr,w.heap[b]?=some (.cells cs T fr)→off+cap*es≤cs.size)
 | .fn f caps,v=>∃vs:List Value,v= .func (.func f) #[] vs.toArray∧cA w L F U caps vs
 | .agg ds,v=>∃vs:List Value,v= .agg vs.toArray∧cA w L F U ds vs
 | .tup ds,v=>∃vs:List Value,v= .tuple vs.toArray∧cA w L F U ds vs
def cA (w:World)(L:Loc)(F:Nat→Nat→Prop)(U:Id→Prop):List D→List Value→Prop
 |[],[]=>True
 |d::ds,v::vs=>bw w L F U d v∧cA w L F U ds vs
 |[],_::_=>False
 |_::_,[]=>False
end
structure Ext (w:World)(L:Loc)(F:Nat→Nat→Prop)(U:Id→Prop)(w':World)(L':Loc)(F':Nat→Nat→Prop)(U':Id→Prop):Prop where
 u:∀id,U id→U' id
 l:∀id,U id→L' id=L id
 f:∀b k,F b k→F' b k
 fk:∀b k,F b k→World.at w' b k=World.at w b k
 size:w.heap.size≤w'.heap.size
 shape:∀b cs' T' fr',b<w.heap.size→w'.heap[b]?=some (.cells cs' T' fr')→∃cs T fr,w.heap[b]?=some (.cells cs T fr)∧cs.size≤cs'.size
mutual
theorem bw.ext {w L F U w' L' F' U'}(e:Ext w L F U w' L' F' U'):∀(d:D) (v:Value),bw w L F U d v→bw w' L' F' U' d v
 | .junk,_,_=>trivial
 | .fz x,v,h=>dD.mono (by simp_all[bw]) e.fk e.f
 | .full xs,v,h=>by simp only[bw]at h ⊢;obtain⟨a,h1,h2⟩:=h;exact⟨a,h1,h2.mono e.fk e.f⟩
 | .rp xs,v,h=>by simp only[bw]at h ⊢;obtain⟨b,off,h1,h4⟩:=h;exact⟨b,off,h1,fun j hj=>let⟨f,u,a,b⟩:=h4 j hj;⟨e.f _ _ f,u,(e.fk _ _ f).trans a,b.mono e.fk e.f⟩⟩
 | .ptr id k,v,h=>by simp only[bw]at h ⊢;obtain⟨h1,h2,h3⟩:=h;rw[e.l _ h1];exact⟨e.u _ h1,cO h2 e.size,h3⟩
 | .arr id es s len,v,h=>by
  simp only[bw]at h ⊢;obtain⟨h1,a,cap,h2,h3,h4,h5⟩:=h;rw[e.l _ h1];refine⟨e.u _ h1,a,cap,h2,h3,h4,?_⟩;rcases h5 with h5|⟨h5,h8,h6,h7⟩
  ·omega
  ·refine .inr ⟨h5,h8,cO h6 e.size,fun cs' T' fr' hc=>?_⟩;obtain⟨cs,T,fr,hc',hle⟩:=e.shape _ _ _ _ h6 hc;grind
 | .ow id es xs,v,h=>by
  simp only[bw]at h ⊢;obtain⟨h1,h2,a,cap,h3,h4⟩:=h;refine⟨e.u _ h1,h2.mono e.fk e.f,a,cap,h3,?_⟩;rcases h4 with h4|⟨b,off,g1,g2,g3,g4⟩
  ·omega
  ·refine .inr ⟨b,off,g1,by rw[e.l _ h1];exact g2,cO g3 e.size,fun cs' T' fr' hc=>?_⟩;obtain⟨cs,T,fr,hc',hle⟩:=e.shape _ _ _ _ g3 hc;grind
 | .fn f caps,v,h=>by simp only[bw]at h ⊢;obtain⟨vs,h1,h2⟩:=h;exact⟨vs,h1,cA.ext e _ _ h2⟩
 | .agg ds,v,h=>by simp only[bw]at h ⊢;obtain⟨vs,h1,h2⟩:=h;exact⟨vs,h1,cA.ext e _ _ h2⟩
 | .tup ds,v,h=>by simp only[bw]at h ⊢;obtain⟨vs,h1,h2⟩:=h;exact⟨vs,h1,cA.ext e _ _ h2⟩
theorem cA.ext {w L F U w' L' F' U'}(e:Ext w L F U w' L' F' U'):∀(ds:List D) (vs:List Value),cA w L F U ds vs→cA w' L' F' U' ds vs
 |[],[],_=>trivial
 |d::ds,v::vs,h=>by simp only[cA]at h ⊢;exact⟨bw.ext e d v h.1,cA.ext e ds vs h.2⟩
 |[],_::_,h=>h.elim
 |_::_,[],h=>h.elim
end
def iT (w:World)(L:Loc)(F:Nat→Nat→Prop)(U:Id→Prop)(id:Id)(o:O):Prop:=
 if(L id).3=true then o.cells=[]∧o.virt=true else
  (∀k,(L id).2≤k→¬F (L id).1 k)∧∃cs T,w.heap[(L id).1]?=some (.cells cs T (0,0))∧(L id).2+o.cells.length≤cs.size∧
   ∀j,j<o.cells.length→∃v,cs[(L id).2+j]?=some v∧bw w L F U (o.cells.getD j .junk) v
def vC (G:Nat→List FD)(w:World)(F:Nat→Nat→Prop):Prop:=
 (∀g j,j<(G g).length→F g j∧∃v,World.at w g j=some v∧dD w F v ((G g).getD j .nilf))∧∀g,G g≠[]→F g (G g).length∧World.at w g (G g).length=none
structure OkW (G:Nat→List FD)(w:World)(L:Loc)(F:Nat→Nat→Prop)(U:Id→Prop)(H:bR):Prop where
 fb:∀b k,F b k→b<w.heap.size
 live:∀id o,H id=some o→U id∧iT w L F U id o
 inj:∀id id' o o',H id=some o→H id'=some o'→(L id).3=false→(L id').3=false→(L id).1=(L id').1→id=id'
 glob:vC G w F
def Blk (H:bR)(L:Loc)(b:Nat):Prop:=∃id o,H id=some o∧(L id).3=false∧(L id).1=b
def Own (H:bR)(L:Loc)(b k:Nat):Prop:=∃id o,H id=some o∧(L id).3=false∧(L id).1=b∧(L id).2≤k
theorem Own.blk {H L b k}(h:Own H L b k):Blk H L b:=let⟨id,o,h1,h2,h3,_⟩:=h;⟨id,o,h1,h2,h3⟩
theorem Blk.own {H L b}(h:Blk H L b):∃k,Own H L b k:=let⟨id,o,h1,h2,h3⟩:=h;⟨_,id,o,h1,h2,h3,aI _⟩
structure dH (H:bR)(w:World)(L:Loc)(F:Nat→Nat→Prop)(U:Id→Prop)(H':bR)(w':World)(L':Loc)(F':Nat→Nat→Prop)(U':Id→Prop):Prop where
 u:∀id,U id→U' id
 l:∀id,U id→L' id=L id
 f:∀b k,F b k→F' b k
 size:w.heap.size≤w'.heap.size
 keep:∀b,b<w.heap.size→¬Blk H L b→w'.heap[b]?=w.heap[b]?
 keepc:∀b k,b<w.heap.size→¬Own H L b k→World.at w' b k=World.at w b k
 shape:∀b cs' T' fr',b<w.heap.size→w'.heap[b]?=some (.cells cs' T' fr')→∃cs T fr,w.heap[b]?=some (.cells cs T fr)∧cs.size≤cs'.size
 fnew:∀b k,F' b k→F b k∨w.heap.size≤b∨Own H L b k
 bnew:∀b k,Own H' L' b k→w.heap.size≤b∨Own H L b k
 os:w'.os=w.os
 tape:w'.tape=w.tape
 output:w'.output=w.output
 drawn:w.drawn≤w'.drawn
theorem OkW.not_own {G w L F U H}(h:OkW G w L F U H){b k}(hF:F b k):¬Own H L b k:=by rintro⟨id,o,h1,h2,h3,h4⟩;have:=(h.live id o h1).2;simp_all[iT]
theorem dH.ext {G H w L F U H' w' L' F' U'}(s:dH H w L F U H' w' L' F' U')(h:OkW G w L F U H):Ext w L F U w' L' F' U':=
 ⟨s.u,s.l,s.f,fun b k hb=>s.keepc b k (h.fb b k hb) (h.not_own hb),s.size,s.shape⟩
theorem dH.refl (H w L F U):dH H w L F U H w L F U:=
  ⟨fun _ h=>h,fun _ _=>rfl,fun _ _ h=>h,aI _,fun _ _ _=>rfl,fun _ _ _ _=>rfl,ap,
   ap,ap,rfl,rfl,rfl,aI _⟩
theorem dH.bnewb {H w L F U H' w' L' F' U'}(s:dH H w L F U H' w' L' F' U'){b}(h:Blk H' L' b):w.heap.size≤b∨Blk H L b:=by obtain⟨k,hk⟩:=h.own;exact(s.bnew b k hk).imp_right Own.blk
theorem dH.trans {H w L F U H' w' L' F' U' H'' w'' L'' F'' U''}(s:dH H w L F U H' w' L' F' U')(t:dH H' w' L' F' U' H'' w'' L'' F'' U''):
  dH H w L F U H'' w'' L'' F'' U'':=by
 refine⟨fun id h=>t.u _ (s.u _ h),fun id h=>(t.l _ (s.u _ h)).trans (s.l _ h),fun b k h=>t.f _ _ (s.f _ _ h),bz s.size t.size,?_,?_,?_,?_,?_,
  t.os.trans s.os,t.tape.trans s.tape,t.output.trans s.output,bz s.drawn t.drawn⟩
 ·intro b hb hn;refine(t.keep b (cO hb s.size) ?_).trans (s.keep b hb hn);intro hB;rcases s.bnewb hB with h|h
  all_goals grind
 ·intro b k hb hn;refine(t.keepc b k (cO hb s.size) ?_).trans (s.keepc b k hb hn);intro hB;rcases s.bnew b k hB with h|h
  all_goals grind
 ·intro b cs' T' fr' hb hc;obtain⟨cs,T,fr,h1,h2⟩:=t.shape b _ _ _ (cO hb s.size) hc;obtain⟨cs0,T0,fr0,h3,h4⟩:=s.shape b _ _ _ hb h1;grind
 ·intro b k hb;rcases t.fnew b k hb with h|h|h
  ·exact s.fnew b k h
  ·exact .inr (.inl (bz s.size h))
  ·rcases s.bnew b k h with h|h
   all_goals grind
 ·intro b k hb;rcases t.bnew b k hb with h|h
  ·exact .inl (bz s.size h)
  ·exact s.bnew b k h
inductive Und where
 |bool|int (k:IntKind)|str|slice (e:TypeId)|struct (fs:List (Nat×TypeId))|func|ptr|other
structure TI where
 size:Nat
 bytes:Nat
 zero:List D
 und:Und
 agg:Bool
 eqok:Bool
 fund:List Und
def mz:TypeDesc→Und
 | .bool=> .bool
 | .int k=> .int k
 | .string=> .str
 | .slice e=> .slice e
 | .struct fs=> .struct (fs.toList.map fun f=>(f.offset,f.type))
 | .func _ _ _=> .func
 | .pointer _=> .ptr
 |_=> .other
def Gw:TypeDesc→Bool
 | .struct _| .array _ _=>true
 |_=>false
def r5:Value→D
 | .bool b=> .fz (.b b)
 | .int k n=>if n=0 then .fz (.i k 0)else .junk
 | .string s=>if s.size=0 then .fz (.s [])else .junk
 | .slice none 0 0=> .full []
 | .nilFunc=> .fz .nilf
 |_=> .junk
def v7 (P:Program)(t:TypeId):Bool:=
 match P.underlying t with
 |some .bool|some (.int _)|some .string=>true
 |_=>false
def Ax (P:Program)(t:TypeId):TypeDesc→Bool
 | .struct fs=> !P.eqGuardType P.depth t&& !P.stoodInHeld t&&
   (fs.toList.zipIdx.all fun(f,i)=>f.name != "_" &&f.offset==i&&v7 P f.type)
 |_=>false
def EF (P:Program):TypeDesc→List Und
 | .struct fs=>fs.toList.map fun f=>((P.underlying f.type).map mz).getD .other
 |_=>[]
def cN (P:Program)(t:TypeId):Option TI:=
 match P.info? t with
 |none=>none
 |some i=>
  match i.zero,P.underlying t with
  |some z,some u=>if z.cells.size=i.size then some {size:=i.size,bytes:=i.bytes,zero:=z.cells.toList.map r5,und:=mz u,agg:=Gw u,eqok:=Ax P t u,fund:=EF P u}else none
  |_,_=>none
theorem jg {P:Program}{t:TypeId}{ti:TI}(h:cN P t=some ti):∃i z u,P.info? t=some i∧i.zero=some z∧P.underlying t=some u∧
  ti={size:=i.size,bytes:=i.bytes,zero:=z.cells.toList.map r5,und:=mz u,agg:=Gw u,eqok:=Ax P t u,fund:=EF P u}:=by
 grind[cN]
theorem rz {P:Program}{t:TypeId}{ti:TI}(h:cN P t=some ti):ti.zero.length=ti.size:=by grind[cN]
theorem LC {u:TypeDesc}{e}(h:mz u= .slice e):u= .slice e:=by cases u<;>simp_all[mz]
theorem Ep {u:TypeDesc}(h:mz u= .str):u= .string:=by cases u<;>simp_all[mz]
theorem QF {u:TypeDesc}(h:mz u= .bool):u= .bool:=by cases u<;>simp_all[mz]
theorem Sc {u:TypeDesc}{k}(h:mz u= .int k):u= .int k:=by cases u<;>simp_all[mz]
theorem yJ {u:TypeDesc}{l}(h:mz u= .struct l):∃fs,u= .struct fs∧l=fs.toList.map fun f=>(f.offset,f.type):=by cases u<;>simp_all[mz]
section
variable {P:Program} {w:World} {t:TypeId} {ti:TI}
theorem oK (h:cN P t=some ti):(sizeOf t).run P w= .ok ti.size w:=by obtain⟨i,z,u,h1,_,_,rfl⟩:=jg h;simp[sizeOf,typeInfo,h1]
theorem wz (h:cN P t=some ti):(isAgg t).run P w= .ok ti.agg w:=by obtain⟨i,z,u,h1,_,h3,rfl⟩:=jg h;simp only[isAgg,underlying,dG,lS,cV,h3,gn];cases u<;>rfl
end
theorem tE {w:World}{b o:Nat}{cs T fr}(h:w.heap[b]?=some (.cells cs T fr)):w.cell? ⟨b,o,none⟩=cs[o]?:=by simp[World.cell?,h]
theorem nA {w:World}{b o:Nat}{cs T fr}(h:w.heap[b]?=some (.cells cs T fr)):World.at w b o=cs[o]?:=tE h
theorem xk {w w':World}{b:Nat}(h:w'.heap[b]?=w.heap[b]?)(k:Nat):World.at w' b k=World.at w b k:=by grind[World.at,World.cell?]
theorem mQ (b o n:Nat):Addr.add ⟨b,o,none⟩ n=⟨b,o+n,none⟩:=by simp_all[Addr.add]
theorem Iy {P:Program}{w:World}{t:TypeId}{ti:TI}(ht:cN P t=some ti){b off:Nat}(f:Nat→Value)
  (hc:∀j,j<ti.size→w.cell? ⟨b,off+j,none⟩=some (f j))(hs:ti.agg=false→ti.size=1):
  (loadVar t ⟨b,off,none⟩).run P w= .ok (if ti.agg then .agg ((List.range ti.size).map f).toArray else f 0) w:=by
 simp only[loadVar,dG,wz ht,cV,lR];split
 all_goals simp_all[oK,run_loadCells,mQ]
section
variable {w:World} {F:Nat→Nat→Prop} {v:Value}
theorem dD.int_inv {k n}(h:dD w F v (.i k n)):v= .int k n∧k.min≤n∧n≤k.max:=by cases h;grind
theorem dD.b_inv {x}(h:dD w F v (.b x)):v= .bool x:=by cases h;rfl
theorem dD.s_inv {l}(h:dD w F v (.s l)):∃x:ByteArray,v= .string x∧x.data.toList=l∧x.size=l.length∧l.length≤dt:=by
 cases h with
 |s x hx=>simp_all
theorem dD.agg_inv {xs}(h:dD w F v (.agg xs)):∃vs:List Value,v= .agg vs.toArray∧vs.length=xs.length∧
  ∀j,j<xs.length→dD w F (vs.getD j undef) (xs.getD j .nilf):=by
 cases h with
 |agg vs xs h1 h2=>grind
theorem dD.sl_inv {xs}(h:dD w F v (.sl xs)):∃a cap,v= .slice a xs.length cap∧xs.length≤cap∧xs.length≤dt∧
  (0<xs.length→∃b off es,∃vs:Nat→Nat→Value,a=some ⟨b,off,none⟩∧(∀k,k<xs.length*es→F b (off+k))∧
   (∀i,i<xs.length→(xs.getD i .nilf).cells.length=es)∧(∀i j,i<xs.length→j<es→World.at w b (off+i*es+j)=some (vs i j))∧
   (∀i j,i<xs.length→j<es→dD w F (vs i j) ((xs.getD i .nilf).cells.getD j .nilf))):=by
 cases h with
 |sl0 a cap=>simp
 |sl b off cap es xs vs h1 h2 h3 h5 h6 h7=>exact⟨_,cap,rfl,h1,h2,fun _=>⟨b,off,es,vs,rfl,h3,h5,h6,h7⟩⟩
end
theorem dD.sl_mk {w:World}{F:Nat→Nat→Prop}{xs:List FD}{a cap}(h1:xs.length≤cap)(h2:xs.length≤dt)
  (h:0<xs.length→∃b off es,∃vs:Nat→Nat→Value,a=some ⟨b,off,none⟩∧(∀k,k<xs.length*es→F b (off+k))∧
   (∀i,i<xs.length→(xs.getD i .nilf).cells.length=es)∧(∀i j,i<xs.length→j<es→World.at w b (off+i*es+j)=some (vs i j))∧
   (∀i j,i<xs.length→j<es→dD w F (vs i j) ((xs.getD i .nilf).cells.getD j .nilf))):dD w F (.slice a xs.length cap) (.sl xs):=by
 cases xs with
 |nil=>exact .sl0 a cap
 |cons x xs=>obtain⟨b,off,es,vs,rfl,h3,h5,h6,h7⟩:=h ak;exact .sl b off cap es _ vs h1 h2 h3 h5 h6 h7
theorem cA.iff {w L F U}:∀(ds:List D) (vs:List Value),cA w L F U ds vs↔vs.length=ds.length∧∀j,j<ds.length→bw w L F U (ds.getD j .junk) (vs.getD j undef)
 |[],[]=>by simp[cA]
 |[],_::_=>by simp[cA]
 |_::_,[]=>by simp[cA]
 |d::ds,v::vs=>by
  simp only[cA,cA.iff ds vs,aN,Nat.add_right_cancel_iff];constructor
  ·grind
  ·rintro⟨h2,h3⟩;exact⟨by simpa using h3 0 ae,h2,ap⟩
theorem dD.not_agg {w F v x}(h:dD w F v x)(hx:∀xs,x≠ .agg xs):v.cells= #[v]:=by cases h<;>first|rfl|grind
def D.cs:D→List D
 | .fz x=>x.cells.map .fz
 | .agg ds=>ds
 |d=>[d]
theorem yo (xs:List FD)(j:Nat)(h:j<xs.length):(xs.map D.fz).getD j .junk= .fz (xs.getD j .nilf):=ap
theorem bw.cs {w L F U}{d:D}{v:Value}(h:bw w L F U d v)(hj:d≠ .junk):cA w L F U d.cs v.cells.toList:=by
 cases d with
 |junk=>grind
 |fz x=>
  simp only[bw]at h;by_cases hx:∃xs,x= .agg xs
  ·obtain⟨xs,rfl⟩:=hx;obtain⟨vs,rfl,h1,h2⟩:=h.agg_inv;simp_all[D.cs,FD.cells,Value.cells,cA.iff,bw]
  ·have hx':∀xs,x≠ .agg xs:=ap
   rw[h.not_agg hx'];have:D.cs (.fz x)=[.fz x]:=by cases x<;>first|rfl|grind
   simp_all[cA,bw]
 |agg ds=>grind[bw,D.cs,Value.cells]
 |full xs=>have h':=h;simp only[bw]at h';obtain⟨a,rfl,_⟩:=h';simp only[D.cs,Value.cells];exact⟨h,trivial⟩
 |rp xs=>have h':=h;simp only[bw]at h';obtain⟨_,_,rfl,_⟩:=h';exact⟨h,trivial⟩
 |ptr id k=>have h':=h;simp only[bw]at h';obtain⟨_,_,rfl⟩:=h';exact⟨h,trivial⟩
 |arr id es s len=>have h':=h;simp only[bw]at h';obtain⟨_,_,_,rfl,_⟩:=h';exact⟨h,trivial⟩
 |ow id es xs=>have h':=h;simp only[bw]at h';obtain⟨_,_,_,_,rfl,_⟩:=h';exact⟨h,trivial⟩
 |fn f caps=>have h':=h;simp only[bw]at h';obtain⟨_,rfl,_⟩:=h';exact⟨h,trivial⟩
 |tup ds=>have h':=h;simp only[bw]at h';obtain⟨_,rfl,_⟩:=h';exact⟨h,trivial⟩
mutual
def D.toFD:D→Option FD
 | .fz x=>some x
 | .full xs=>some (.sl xs)
 | .ow _ _ xs=>some (.sl xs)
 | .agg ds=>(D.toFDs ds).map .agg
 |_=>none
def D.toFDs:List D→Option (List FD)
 |[]=>some []
 |d::ds=>match D.toFD d,D.toFDs ds with
  |some x,some xs=>some (x::xs)
  |_,_=>none
end
mutual
theorem bw.toFD {w L F U}:∀(d:D) (v:Value) (x:FD),bw w L F U d v→d.toFD=some x→dD w F v x
 | .fz y,v,x,h,e=>by simp_all[D.toFD,bw]
 | .full xs,v,x,h,e=>by simp_all[D.toFD,bw]
 | .ow _ _ xs,v,x,h,e=>by simp_all[D.toFD,bw]
 | .agg ds,v,x,h,e=>by simp only[D.toFD,bN]at e;obtain⟨xs,e,rfl⟩:=e;simp only[bw]at h;obtain⟨vs,rfl,h⟩:=h;obtain⟨h1,h2⟩:=cA.toFDs ds vs xs h e;exact .agg vs xs h1 h2
 | .junk,_,_,_,e=>by simp[D.toFD]at e
 | .rp _,_,_,_,e=>by simp[D.toFD]at e
 | .ptr _ _,_,_,_,e=>by simp[D.toFD]at e
 | .arr _ _ _ _,_,_,_,e=>by simp[D.toFD]at e
 | .fn _ _,_,_,_,e=>by simp[D.toFD]at e
 | .tup _,_,_,_,e=>by simp[D.toFD]at e
theorem cA.toFDs {w L F U}:∀(ds:List D) (vs:List Value) (xs:List FD),cA w L F U ds vs→D.toFDs ds=some xs→
  vs.length=xs.length∧∀j,j<xs.length→dD w F (vs.getD j undef) (xs.getD j .nilf)
 |[],vs,xs,h,e=>by
  simp only[D.toFDs,aL]at e;subst e;cases vs with
  |nil=>simp
  |cons=>exact h.elim
 |d::ds,vs,xs,h,e=>by
  cases vs with
  |nil=>exact h.elim
  |cons v vs=>
   simp only[D.toFDs]at e;split at e
   ·rename_i x xs' e1 e2;obtain rfl:=(bq e).symm;simp only[cA]at h;obtain⟨i1,i2⟩:=cA.toFDs ds vs xs' h.2 e2;grind[bw.toFD d v x h.1 e1]
   grind
end
def rR:Und→FD→FD→Option (Bool×Prop)
 | .bool,.b x,.b y=>some (x==y,True)
 | .int k,.i k1 x,.i k2 y=>some (x==y,k1=k∧k2=k)
 | .str,.s x,.s y=>some (x==y,True)
 |_,_,_=>none
def lk:List Und→List FD→List FD→Option (Bool×Prop)
 |[],[],[]=>some (true,True)
 |u::us,x::xs,y::ys=>
  match rR u x y,lk us xs ys with
  |some (a,c),some (b,e)=>some (a&&b,c∧e)
  |_,_=>none
 |_,_,_=>none
def inK (k:IntKind)(n:Int):Prop:=k.min≤n∧n≤k.max
def ly (op:BinOp)(k k':IntKind)(a b:Int):Option (D×Prop):=
 match op with
 | .add=>some (.fz (.i k (a+b)),k=k'∧inK k (a+b))
 | .sub=>some (.fz (.i k (a-b)),k=k'∧inK k (a-b))
 | .mul=>some (.fz (.i k (a*b)),k=k'∧inK k (a*b))
 | .quo=>some (.fz (.i k (a / b)),k=k'∧0≤a∧0<b)
 | .rem=>some (.fz (.i k (a % b)),k=k'∧0≤a∧0<b)
 | .shr=>some (.fz (.i k (a / 2^b.toNat)),0≤a∧0≤b∧b.toNat≤k.bits)
 | .and=>some (.fz (.i k (k.wrap (BitVec.ofInt k.bits a&&& BitVec.ofInt k.bits b).toNat)),k=k')
 | .or=>some (.fz (.i k (k.wrap (BitVec.ofInt k.bits a|||BitVec.ofInt k.bits b).toNat)),k=k')
 | .eql=>some (.fz (.b (a==b)),k=k')
 | .neq=>some (.fz (.b (a !=b)),k=k')
 | .lss=>some (.fz (.b (decide (a<b))),k=k')
 | .leq=>some (.fz (.b (decide (a≤b))),k=k')
 | .gtr=>some (.fz (.b (decide (b<a))),k=k')
 | .geq=>some (.fz (.b (decide (b≤a))),k=k')
 |_=>none
def oX (op:BinOp)(a b:List UInt8):Option (D×Prop):=
 match op with
 | .add=>some (.fz (.s (a++b)),a.length+b.length≤dt)
 | .eql=>some (.fz (.b (a==b)),True)
 | .neq=>some (.fz (.b (!(a==b))),True)
 | .lss=>some (.fz (.b (Op.bytesLess a b)),True)
 | .leq=>some (.fz (.b (Op.bytesLess a b||a==b)),True)
 | .gtr=>some (.fz (.b (!(Op.bytesLess a b||a==b))),True)
 | .geq=>some (.fz (.b (!Op.bytesLess a b)),True)
 |_=>none
def TI.isBool (ti:TI):Bool:=match ti.und with| .bool=>true|_=>false
def kK (P:Program)(op:BinOp)(t:TypeId)(x y:D):Option (D×Prop):=
 match x,y with
 | .fz (.i k a),.fz (.i k' b)=>ly op k k' a b
 | .fz (.s a),.fz (.s b)=>oX op a b
 | .fz (.b a),.fz (.b b)=>
  match cN P t with
  |some ti=>if ti.isBool then
    match op with
    | .eql=>some (.fz (.b (a==b)),True)
    | .neq=>some (.fz (.b (!(a==b))),True)
    |_=>none
   else none
  |none=>none
 |x,y=>
  match x.toFD,y.toFD with
  |some (.agg xs),some (.agg ys)=>
   match cN P t with
   |some ti=>
    match lk ti.fund xs ys with
    |some (r,c)=>if ti.eqok then
      match op with
      | .eql=>some (.fz (.b r),c)
      | .neq=>some (.fz (.b (!r)),c)
      |_=>none
     else none
    |none=>none
   |none=>none
  |_,_=>none
def sU (op:UnOp)(x:D):Option (D×Prop):=
 match op,x with
 | .not,.fz (.b a)=>some (.fz (.b (!a)),True)
 | .neg,.fz (.i k a)=>some (.fz (.i k (-a)),inK k (-a))
 |_,_=>none
def rU (c a b:D):Option (D×Prop):=
 match c with
 | .fz (.b x)=>some (if x then a else b,True)
 |_=>none
def pZ (P:Program)(H:bR)(t:TypeId)(a:D):Option (D×Prop):=
 match cN P t with
 |none=>none
 |some ti=>
  match a with
  | .rp xs=>some (if ti.agg then .fz (.agg (xs.take ti.size))else .fz (xs.getD 0 .nilf),ti.size≤xs.length∧(ti.agg=false→ti.size=1))
  | .ptr id k=>
   match H id with
   |some o=>some (if ti.agg then .agg ((o.cells.drop k).take ti.size)else o.cells.getD k .junk,
     k+ti.size≤o.cells.length∧o.virt=false∧(ti.agg=false→ti.size=1))
   |none=>none
  |_=>none
def tW (x:D):Option (D×Prop):=
 match x with
 | .rp _| .ptr _ _=>some (x,True)
 |_=>none
def se (P:Program)(t:TypeId)(x:D)(i:Nat):Option (D×Prop):=
 match cN P t with
 |some ti=>
  match ti.und with
  | .struct fs=>
   match fs[i]? with
   |some (off,ft)=>
    match cN P ft with
    |some fi=>
     match x with
     | .ptr id k=>some (.ptr id (k+off),fi.size≠0)
     | .rp xs=>some (.rp (xs.drop off),fi.size≠0)
     |_=>none
    |none=>none
   |none=>none
  |_=>none
 |none=>none
def yE (P:Program)(t:TypeId)(x:D)(i:Nat):Option (D×Prop):=
 match cN P t with
 |some ti=>
  match ti.und with
  | .struct fs=>
   match fs[i]? with
   |some (off,ft)=>
    match cN P ft,x with
    |some fi,.agg ds=>some (if fi.agg then .agg ((ds.drop off).take fi.size)else ds.getD off .junk,off+fi.size≤ds.length∧(fi.agg=false→fi.size=1))
    |some fi,.fz (.agg ds)=>some (if fi.agg then .fz (.agg ((ds.drop off).take fi.size))else .fz (ds.getD off .nilf),off+fi.size≤ds.length∧(fi.agg=false→fi.size=1))
    |_,_=>none
   |none=>none
  |_=>none
 |none=>none
def fG (P:Program)(t:TypeId):Option TI:=
 match cN P t with
 |some ti=>
  match ti.und with
  | .slice e=>cN P e
  |_=>none
 |none=>none
def sf (P:Program)(t:TypeId)(x i:D):Option (D×Prop):=
 match fG P t,i with
 |some te,.fz (.i _ n)=>
  match x with
  | .fz (.sl xs)=>some (.rp (xs.getD n.toNat .nilf).cells,0≤n∧n<xs.length∧(xs.getD n.toNat .nilf).cells.length=te.size)
  | .full xs=>some (.rp (xs.getD n.toNat .nilf).cells,0≤n∧n<xs.length∧(xs.getD n.toNat .nilf).cells.length=te.size)
  | .ow _ _ xs=>some (.rp (xs.getD n.toNat .nilf).cells,0≤n∧n<xs.length∧(xs.getD n.toNat .nilf).cells.length=te.size)
  | .arr id es s len=>some (.ptr id (s+n.toNat*es),0≤n∧n<len∧es=te.size)
  |_=>none
 |_,_=>none
def TI.isStr (ti:TI):Bool:=match ti.und with| .str=>true|_=>false
def sE (P:Program)(t:TypeId)(x i:D):Option (D×Prop):=
 match cN P t,x,i with
 |some ti,.fz (.s l),.fz (.i _ n)=>if ti.isStr then some (.fz (.i .u8 ((l.getD n.toNat 0).toNat:Int)),0≤n∧n<l.length)else none
 |_,_,_=>none
def tm (x:D)(i:Nat):Option (D×Prop):=
 match x with
 | .tup ds=>match ds[i]? with|some d=>some (d,True)|none=>none
 |_=>none
def nu (lo:Option D):Option Int:=
 match lo with
 |none=>some 0
 |some (.fz (.i _ n))=>some n
 |_=>none
def mP (len:Nat)(hi:Option D):Option Int:=
 match hi with
 |none=>some len
 |some (.fz (.i _ n))=>some n
 |_=>none
def ku (xs:List FD)(l h:Int):List FD:=(xs.take h.toNat).drop l.toNat
def oh (P:Program)(t:TypeId)(x:D)(lo hi mx:Option D):Option (D×Prop):=
 match cN P t,x with
 |some ti,.fz (.s s)=>
  if ti.isStr then
   match nu lo,mP s.length hi,mx with
   |some l,some h,none=>some (.fz (.s ((s.take h.toNat).drop l.toNat)),0≤l∧l≤h∧h≤s.length)
   |_,_,_=>none
  else none
 |some _,.fz (.sl xs)=>
  match fG P t,nu lo,mP xs.length hi with
  |some te,some l,some h=>
   match mx,hi with
   |none,_=>some (.fz (.sl (ku xs l h)),0≤l∧l≤h∧h≤xs.length∧(l=0∨l=h∨(xs.getD l.toNat .nilf).cells.length=te.size))
   |some (.fz (.i _ m)),some _=>some (.full (ku xs l h),0≤l∧l≤h∧h≤xs.length∧m=h∧(l=0∨l=h∨(xs.getD l.toNat .nilf).cells.length=te.size))
   |_,_=>none
  |_,_,_=>none
 |some _,.full xs=>
  match fG P t,nu lo,mP xs.length hi with
  |some te,some l,some h=>
   match mx,hi with
   |none,none=>some (.full (ku xs l h),0≤l∧l≤h∧(l=0∨l=h∨(xs.getD l.toNat .nilf).cells.length=te.size))
   |none,some _=>some (.fz (.sl (ku xs l h)),0≤l∧l≤h∧h≤xs.length∧(l=0∨l=h∨(xs.getD l.toNat .nilf).cells.length=te.size))
   |some (.fz (.i _ m)),some _=>some (.full (ku xs l h),0≤l∧l≤h∧h≤xs.length∧m=h∧(l=0∨l=h∨(xs.getD l.toNat .nilf).cells.length=te.size))
   |_,_=>none
  |_,_,_=>none
 |some _,.ow _ _ xs=>
  match fG P t,nu lo,mP xs.length hi with
  |some te,some l,some h=>
   match mx,hi with
   |none,_=>some (.fz (.sl (ku xs l h)),0≤l∧l≤h∧h≤xs.length∧(l=0∨l=h∨(xs.getD l.toNat .nilf).cells.length=te.size))
   |some (.fz (.i _ m)),some _=>some (.full (ku xs l h),0≤l∧l≤h∧h≤xs.length∧m=h∧(l=0∨l=h∨(xs.getD l.toNat .nilf).cells.length=te.size))
   |_,_=>none
  |_,_,_=>none
 |some _,.arr id es s len=>
  match fG P t,nu lo,mP len hi,mx with
  |some te,some l,some h,none=>some (.arr id es (s+l.toNat*es) (h-l).toNat,0≤l∧l≤h∧h≤len∧es=te.size)
  |_,_,_,_=>none
 |_,_=>none
def TI.intK (ti:TI):Option IntKind:=match ti.und with| .int k=>some k|_=>none
def pX (P:Program)(s t:TypeId)(x:D):Option (D×Prop):=
 match cN P s,cN P t,x with
 |some _,some ti,.fz (.i _ n)=>
  match ti.intK with
  |some k=>some (.fz (.i k n),inK k n)
  |none=>none
 |some si,some ti,.fz (.s l)=>if si.isStr&&ti.isStr then some (.fz (.s l),True)else none
 |some _,some ti,.full [.i .u8 n]=>
  match(fG P s).bind TI.intK with
  |some .u8=>if ti.isStr then some (.fz (.s [UInt8.ofNat n.toNat]),True)else none
  |_=>none
 |_,_,_=>none
def TI.isSlice (ti:TI):Bool:=match ti.und with| .slice _=>true|_=>false
def sO (P:Program)(t:TypeId)(x:D):Option (D×Prop):=
 match cN P t,x with
 |some ti,.fz (.s l)=>if ti.isStr then some (.fz (.i .i64 l.length),True)else none
 |some ti,.fz (.sl xs)=>if ti.isSlice then some (.fz (.i .i64 xs.length),True)else none
 |some ti,.full xs=>if ti.isSlice then some (.fz (.i .i64 xs.length),True)else none
 |some ti,.ow _ _ xs=>if ti.isSlice then some (.fz (.i .i64 xs.length),True)else none
 |some ti,.arr _ _ _ len=>if ti.isSlice then some (.fz (.i .i64 len),True)else none
 |_,_=>none
def nr (P:Program)(b:Builtin)(ts:Array TypeId)(args:List D):Option (D×Prop):=
 match b,args with
 | .len,[x]=>match ts[0]? with|some t=>sO P t x|none=>none
 | .max,[.fz (.i k a),.fz (.i k' b)]=>some (.fz (.i k (max a b)),k=k')
 | .min,[.fz (.i k a),.fz (.i k' b)]=>some (.fz (.i k (min a b)),k=k')
 |_,_=>none
def mh (cells:List D)(off:Nat)(new:List D):List D:=
 new.zipIdx.foldl (fun cs p=>cs.set (off+p.2) p.1) cells
def oQ (P:Program)(fs:List (Nat×TypeId))(cells:List D):List (Nat×D)→Option (List D×Prop)
 |[]=>some (cells,True)
 |(i,d)::rest=>
  match fs[i]? with
  |none=>none
  |some (off,ft)=>
   match cN P ft with
   |none=>none
   |some fi=>
    match oQ P fs (mh cells off d.cs) rest with
    |some (cs,c)=>some (cs,(d.cs.length=fi.size∧off+fi.size≤cells.length)∧c)
    |none=>none
def sH (P:Program)(t:TypeId)(ps:List (Nat×D)):Option (D×Prop):=
 match cN P t with
 |some ti=>
  match ti.und with
  | .struct fs=>
   if fs.all (fun p=>(cN P p.2).isSome)then
    match oQ P fs ti.zero ps with
    |some (cs,c)=>some (.agg cs,c)
    |none=>none
   else none
  |_=>none
 |none=>none
def D.known:D→Bool
 | .junk=>false
 |_=>true
def gD (P:Program)(o:Oper)(ev:Operand→D)(H:bR):Option (D×Prop):=
 match o.op with
 | .move x=>some (ev x,True)
 | .assign x=>some (ev x,True)
 | .pick c a b=>rU (ev c) (ev a) (ev b)
 | .build t ps=>if ps.toList.all (fun p=>(ev p.2).known)then sH P t (ps.toList.map fun p=>(p.1,ev p.2))else none
 | .load t a=>pZ P H t (ev a)
 | .nilCheck x=>tW (ev x)
 | .binOp op t x y _=>kK P op t (ev x) (ev y)
 | .unOp op _ x=>sU op (ev x)
 | .convert s t x=>pX P s t (ev x)
 | .makeFunc (.func f) first caps=>if first.size=0 then some (.fn f (caps.toList.map ev),True)else none
 | .slice t x lo hi mx=>oh P t (ev x) (lo.map ev) (hi.map ev) (mx.map ev)
 | .fieldAddr t x i=>se P t (ev x) i
 | .field t x i=>yE P t (ev x) i
 | .indexAddr t x i=>sf P t (ev x) (ev i)
 | .index t x i=>sE P t (ev x) (ev i)
 | .extract x i=>tm (ev x) i
 | .call c=>match c.callee with
  | .builtin b=>nr P b c.argTypes (c.args.toList.map ev)
  |_=>none
 |_=>none
section
variable {P:Program} {G:Nat→List FD} {w:World} {L:Loc} {F:Nat→Nat→Prop} {U:Id→Prop} {H:bR}
theorem tG {k:IntKind}{n:Int}(h:inK k n):k.wrap n=n:=by unfold inK at h;cases k<;>simp[IntKind.min,IntKind.max,IntKind.wrap,IntKind.signed,IntKind.bits]at h ⊢ <;>omega
theorem Mz (k:IntKind)(n:Int):inK k (k.wrap n):=by unfold inK;cases k<;>simp[IntKind.min,IntKind.max,IntKind.wrap,IntKind.signed,IntKind.bits]<;>omega
theorem mH {k n v}(h:bw w L F U (.fz (.i k n)) v):v= .int k n∧inK k n:=by simp only[bw]at h;obtain⟨h1,h2,h3⟩:=h.int_inv;exact⟨h1,h2,h3⟩
theorem lW {k n}(h:inK k n):bw w L F U (.fz (.i k n)) (.int k n):=by simp only[bw];exact .i k n h.1 h.2
theorem vb {x v}(h:bw w L F U (.fz (.b x)) v):v= .bool x:=by simp only[bw]at h;exact h.b_inv
theorem pY (x:Bool):bw w L F U (.fz (.b x)) (.bool x):=by simp only[bw];exact .b x
theorem vs {l v}(h:bw w L F U (.fz (.s l)) v):∃x:ByteArray,v= .string x∧x.data.toList=l∧x.size=l.length∧l.length≤dt:=by simp only[bw]at h;exact h.s_inv
theorem vZ {x:ByteArray}{l:List UInt8}(h:x.data.toList=l)(hl:l.length≤dt):bw w L F U (.fz (.s l)) (.string x):=by
 subst h;simp only[bw];have hs:x.size=x.data.toList.length:=by rw[cG];rfl
 exact .s x (hs▸hl)
theorem Pe {op k k' a b d c t x y X Y}(h:ly op k k' a b=some (d,c))(hc:c)(hx:bw w L F U (.fz (.i k a)) x)(hy:bw w L F U (.fz (.i k' b)) y):
  ∃v,(do eqGuard op t X Y x y;binOp op t x y:Sem Value).run P w= .ok v w∧bw w L F U d v:=by
 obtain⟨rfl,ha⟩:=mH hx;obtain⟨rfl,hb⟩:=mH hy;rw[eqGuard_at_int];simp only[pure_bind];cases op<;>simp only[ly,aL,aY,reduceCtorEq]at h<;>obtain⟨rfl,rfl⟩:=h
 case add=>obtain⟨rfl,hc⟩:=hc;simp_all[binOp,Op.intArith,tG,lW]
 case sub=>obtain⟨rfl,hc⟩:=hc;simp_all[binOp,Op.intArith,tG,lW]
 case mul=>obtain⟨rfl,hc⟩:=hc;simp_all[binOp,Op.intArith,tG,lW]
 case quo=>
  obtain⟨rfl,h0,h1⟩:=hc;have hq:inK k (a / b):=by
   have h2:a / b≤a:=Int.ediv_le_self b h0;have h3:0≤a / b:=Int.ediv_nonneg h0 ae;have hm:k.min≤0:=by cases k<;>decide
   exact⟨ae,Int.le_trans h2 ha.2⟩
  refine⟨_,?_,lW hq⟩;simp[binOp,Op.intDiv,show¬b=0 by omega,Int.tdiv_eq_ediv_of_nonneg h0,tG hq]
 case rem=>
  obtain⟨rfl,h0,h1⟩:=hc;have hq:inK k (a % b):=by
   have h2:a % b<b:=Int.emod_lt_of_pos a h1;have h3:0≤a % b:=Int.emod_nonneg a ae;have hm:k.min≤0:=by cases k<;>decide
   have:=hb.2;exact⟨ae,ae⟩
  refine⟨_,?_,lW hq⟩;simp[binOp,Op.intDiv,show¬b=0 by omega,Int.tmod_eq_emod_of_nonneg h0]
 case and=>simp_all[binOp,Op.intBits,lW,Mz]
 case or=>simp_all[binOp,Op.intBits,lW,Mz]
 case shr=>
  obtain⟨h0,h1,h2⟩:=hc;have hq:inK k (a / 2^b.toNat):=by
   have h2:a / 2^b.toNat≤a:=Int.ediv_le_self _ h0;have h3:0≤a / 2^b.toNat:=Int.ediv_nonneg h0 ap;have hm:k.min≤0:=by cases k<;>decide
   exact⟨ae,Int.le_trans h2 ha.2⟩
  refine⟨_,?_,lW hq⟩;have hp:(0:Int)≤2^b.toNat:=ap
  simp[binOp,Op.shift,show¬b<0 by omega,eU h2,Int.fdiv_eq_ediv_of_nonneg _ hp]
 all_goals simp_all[binOp,Op.intCmp,pY]
theorem Pi {op a b d c t x y X Y}(h:oX op a b=some (d,c))(hc:c)(hx:bw w L F U (.fz (.s a)) x)(hy:bw w L F U (.fz (.s b)) y):
  ∃v,(do eqGuard op t X Y x y;binOp op t x y:Sem Value).run P w= .ok v w∧bw w L F U d v:=by
 obtain⟨xa,rfl,hxa,hsa,hla⟩:=vs hx;obtain⟨xb,rfl,hxb,hsb,hlb⟩:=vs hy;have ea:xa.toList=a:=by rw[mp,hxa]
 have eb:xb.toList=b:=by rw[mp,hxb]
 rw[eqGuard_at_string];simp only[pure_bind];cases op<;>simp only[oX,aL,aY,reduceCtorEq]at h<;>obtain⟨rfl,rfl⟩:=h
 case add=>
  refine⟨.string (xa++xb),?_,vZ ?_ ap⟩
  ·have:¬(((xa.size+xb.size:Nat):Int)>IntKind.i64.max):=by rw[hsa,hsb];simp only[IntKind.max,IntKind.signed,IntKind.bits,cJ];unfold dt at hc;omega
   simp_all[binOp,Op.stringOp]
  simp_all
 all_goals simp_all[binOp,Op.stringOp,pY]
theorem K5 {P:Program}{w:World}{t:TypeId}(hp:v7 P t=true){cs:Array Value}{off:Nat}{v:Value}(h:cs[off]?=some v):
  (part t cs off).run P w= .ok v w:=by
 unfold v7 at hp;have:(isAgg t).run P w= .ok false w:=by simp only[isAgg,underlying,dG,lS,cV];split at hp<;>first|(simp_all)|grind
 simp[part,this,h]
theorem Wk {P:Program}{w:World}{F:Nat→Nat→Prop}{t:TypeId}{u:TypeDesc}(hu:P.underlying t=some u){d:Nat}{x y:FD}{r:Bool}{c:Prop}{a b:Value}
  (ha:dD w F a x)(hb:dD w F b y)(hr:rR (mz u) x y=some (r,c))(hc:c):
  (Op.equalIn (d+1) t a b).run P w= .ok r w:=by
 cases u<;>cases x<;>cases y<;>simp only[mz,rR,aL,aY,reduceCtorEq]at hr<;>obtain⟨rfl,rfl⟩:=hr
 ·rw[ha.b_inv,hb.b_inv];simp_all[run_equalIn_bool']
 ·rw[ha.int_inv.1,hb.int_inv.1];simp_all[run_equalIn_int]
 ·obtain⟨xa,rfl,hxa,_,_⟩:=ha.s_inv;obtain⟨xb,rfl,hxb,_,_⟩:=hb.s_inv;simp_all[run_equalIn_string,mp]
theorem P6 {P:Program}{t:TypeId}(h:v7 P t=true):∃u,P.underlying t=some u∧((P.underlying t).map mz).getD .other=mz u:=by grind[v7]
theorem Il {P:Program}{w:World}{F:Nat→Nat→Prop}{d:Nat}{va vb:List Value}:∀(fs:List Field) (i:Nat) (xs ys:List FD) (r:Bool) (c:Prop),
  ((fs.zipIdx i).all fun(f,i)=>f.name != "_" &&f.offset==i&&v7 P f.type)=true→
  lk (fs.map fun f=>((P.underlying f.type).map mz).getD .other) xs ys=some (r,c)→c→
  (∀j,j<xs.length→∃a,va[i+j]?=some a∧dD w F a (xs.getD j .nilf))→(∀j,j<ys.length→∃a,vb[i+j]?=some a∧dD w F a (ys.getD j .nilf))→
  (Op.eqFields (d+1) va.toArray vb.toArray fs).run P w= .ok r w
 |[],i,xs,ys,r,c,_,h,_,_,_=>by cases xs<;>cases ys<;>simp only[aQ,lk,aL,aY,reduceCtorEq]at h;obtain⟨rfl,rfl⟩:=h;rfl
 |f::fs,i,xs,ys,r,c,hall,h,hc,ha,hb=>by
  cases xs with
  |nil=>simp[lk]at h
  |cons x xs=>
   cases ys with
   |nil=>simp[lk]at h
   |cons y ys=>
    simp only[aM,lk]at h;simp only[eM,List.all_cons,aS,bne_iff_ne,ne_eq,beq_iff_eq]at hall;obtain⟨⟨⟨hn,ho⟩,hp⟩,hrest⟩:=hall;obtain⟨u,hu,hu'⟩:=P6 hp;rw[hu']at h;split at h
    ·rename_i a1 c1 b1 e1 h1 h2;obtain⟨rfl,rfl⟩:=(by grind:(a1&&b1)=r∧(c1∧e1)=c);obtain⟨a,ha1,ha2⟩:=ha 0 ak;obtain⟨b,hb1,hb2⟩:=hb 0 ak;have e:=Wk (d:=d) hu ha2 hb2 h1 hc.1;have p1:(part f.type va.toArray f.offset).run P w= .ok a w:=by simp_all[K5]
     have p2:(part f.type vb.toArray f.offset).run P w= .ok b w:=by simp_all[K5]
     have ih:=Il (d:=d) fs (i+1) xs ys b1 e1 hrest h2 hc.2
      (fun j hj=>by have:=ha (j+1) ap;simpa[cz,jo 1 j]using this)
      (fun j hj=>by have:=hb (j+1) ap;simpa[cz,jo 1 j]using this)
     simp only[Op.eqFields,hn,ne_eq,not_false_eq_true,cJ,dG,p1,p2,e,cV];cases a1
     all_goals simp_all
    grind
theorem Pa {P:Program}{w:World}{L F U}{op t x y d c a b X Y}(h:kK P op t x y=some (d,c))(hc:c)(hx:bw w L F U x a)(hy:bw w L F U y b):
  ∃v,(do eqGuard op t X Y a b;binOp op t a b:Sem Value).run P w= .ok v w∧bw w L F U d v:=by
 unfold kK at h;split at h
 ·exact Pe h hc hx hy
 ·exact Pi h hc hx hy
 ·split at h
  ·rename_i ti hti;split at h
   ·rename_i hb;obtain⟨i,z,u,h1,h2,h3,rfl⟩:=jg hti;have hu:P.underlying t=some .bool:=by rw[h3];congr 1;unfold TI.isBool at hb;exact (by grind[QF])
    rw[vb hx,vb hy,eqGuard_at_bool];split at h<;>simp only[aL,aY,reduceCtorEq]at h
    ·obtain⟨rfl,rfl⟩:=h;simp_all[run_eql_bool,pY]
    ·obtain⟨rfl,rfl⟩:=h;simp_all[run_neq_bool,pY]
   grind
  grind
 ·split at h
  ·rename_i xs ys h1 h2;have ha:=bw.toFD _ _ _ hx h1;have hb:=bw.toFD _ _ _ hy h2;split at h
   ·rename_i ti hti;split at h
    ·rename_i r c' he;split at h
     ·rename_i hok;obtain⟨i,z,u,g1,g2,g3,rfl⟩:=jg hti;dsimp only at hok he;unfold Ax at hok;split at hok
      ·rename_i fs;simp only[aS,iI]at hok;obtain⟨⟨e1,e2⟩,e3⟩:=hok;obtain⟨va,rfl,la,ra⟩:=ha.agg_inv;obtain⟨vb,rfl,lb,rb⟩:=hb.agg_inv;have hfs:P.fieldsOf t=fs:=by simp[Program.fieldsOf,g3]
       have key:c'→(Op.equalIn 10000 t (.agg va.toArray) (.agg vb.toArray)).run P w= .ok r w:=fun hc'=>by
        rw[run_equalIn_struct w 9999 t _ _ ap e2,hfs];refine Il (F:=F) fs.toList 0 xs ys r c' ae he hc' (fun j hj=>?_) (fun j hj=>?_)
        all_goals grind
       simp only[dG,run_eqGuard_agg w op t X Y _ _ e1,cV];split at h<;>simp only[aL,aY,reduceCtorEq]at h
       ·obtain⟨rfl,rfl⟩:=h;simp_all[run_eql_struct,pY]
       ·obtain⟨rfl,rfl⟩:=h;simp_all[run_neq_struct,pY]
      grind
     grind
    grind
   grind
  grind
end
section
variable {P:Program} {G:Nat→List FD} {w:World} {L:Loc} {F:Nat→Nat→Prop} {U:Id→Prop} {H:bR}
theorem Rg {op x d c a}(h:sU op x=some (d,c))(hc:c)(hx:bw w L F U x a):∃v,(Op.unary op a).run P w= .ok v w∧bw w L F U d v:=by
 unfold sU at h;split at h<;>simp only[aL,aY,reduceCtorEq]at h<;>obtain⟨rfl,rfl⟩:=h
 ·rw[vb hx];simp_all[Op.unary,pY]
 ·rw[(mH hx).1];simp_all[Op.unary,Op.intArith,tG,lW]
theorem Ph {x d c a}(h:tW x=some (d,c))(hx:bw w L F U x a):(∃p,a= .pointer (some p))∧bw w L F U d a:=by unfold tW at h;grind[bw]
theorem iT.real {id:Id}{o:O}(h:iT w L F U id o)(hv:o.virt=false):(L id).3=false:=by simp_all[iT]
theorem iL {id:Id}{o:O}(h:iT w L F U id o)(hv:(L id).3=false):(∀k,(L id).2≤k→¬F (L id).1 k)∧∃cs T,w.heap[(L id).1]?=some (.cells cs T (0,0))∧(L id).2+o.cells.length≤cs.size∧
   ∀j,j<o.cells.length→∃v,cs[(L id).2+j]?=some v∧bw w L F U (o.cells.getD j .junk) v:=by
 simp_all[iT]
theorem H8 {id:Id}{o:O}(h:iT w L F U id o)(hv:o.virt=false):(∀k,(L id).2≤k→¬F (L id).1 k)∧∃cs T,w.heap[(L id).1]?=some (.cells cs T (0,0))∧(L id).2+o.cells.length≤cs.size∧
   ∀j,j<o.cells.length→∃v,cs[(L id).2+j]?=some v∧bw w L F U (o.cells.getD j .junk) v:=iL h (h.real hv)
theorem yu {n:Nat}{p:Nat→Value→Prop}(h:∀j,j<n→∃v,p j v):∃f:Nat→Value,∀j,j<n→p j (f j):=by refine⟨fun j=>if hj:j<n then(h j hj).choose else undef,fun j hj=>?_⟩;grind
theorem JV {t x d c a}(h:pZ P H t x=some (d,c))(hc:c)(hok:OkW G w L F U H)(hx:bw w L F U x a):
  ∃v,(Instr.loadAt t a).run P w= .ok v w∧bw w L F U d v:=by
 unfold pZ at h;split at h
 ·cases h
 ·rename_i ti hti;split at h
  ·rename_i xs;simp only[aL,aY]at h;obtain⟨rfl,rfl⟩:=h;obtain⟨h1,h2⟩:=hc;simp only[bw]at hx;obtain⟨b,off,rfl,hcell⟩:=hx;obtain⟨f,hf⟩:=yu fun j hj=>(hcell j hj).2;have hrun:=Iy (w:=w) hti (b:=b) (off:=off) f (fun j hj=>(hf j ae).1) h2;refine⟨_,by simpa[Instr.loadAt,Instr.sureAddr]using hrun,?_⟩;cases hagg:ti.agg
   ·simp only[bK,cd,bw];grind
   ·simp only[cJ,bw];refine .agg _ _ ap (fun j hj=>?_);grind
  ·rename_i id k;split at h
   ·rename_i o ho;simp only[aL,aY]at h;obtain⟨rfl,rfl⟩:=h;obtain⟨h1,hv,h2⟩:=hc;simp only[bw]at hx;obtain⟨hU,hL,rfl⟩:=hx;obtain⟨_,cs,T,hb,_,hcell⟩:=H8 (hok.live id o ho).2 hv;obtain⟨f,hf⟩:=yu hcell
    have hrun:=Iy (w:=w) hti (b:=(L id).1) (off:=(L id).2+k) (fun j=>f (k+j))
     (by grind[tE]) h2
    refine⟨_,by simpa[Instr.loadAt,Instr.sureAddr]using hrun,?_⟩;cases hagg:ti.agg
    ·grind
    ·simp only[cJ,bw];grind[cA.iff]
   grind
  grind
theorem VZ {t x i d c a}(h:se P t x i=some (d,c))(hc:c)(hx:bw w L F U x a):
  ∃v,(Instr.fieldAt t a i).run P w= .ok v w∧bw w L F U d v:=by
 unfold se at h;split at h
 case h_2=>cases h
 rename_i ti hti;split at h
 case h_2=>cases h
 rename_i fs hfs;split at h
 case h_2=>cases h
 rename_i off ft hi;split at h
 case h_2=>cases h
 rename_i fi hfi;obtain⟨inf,z,u,g1,g2,g3,rfl⟩:=jg hti;obtain⟨fs',rfl,rfl⟩:=yJ hfs;have hf:∃f,fs'[i]?=some f∧f.offset=off∧f.type=ft:=by simp only[bp,bN,aY]at hi;obtain⟨f,h1,h2,h3⟩:=hi;exact ap
 obtain⟨f,hf,rfl,rfl⟩:=hf;have hplace:∀(b o:Nat),fi.size≠0→(fieldPlace ⟨b,o,none⟩ f).run P w= .ok ⟨b,o+f.offset,none⟩ w:=by simp_all[fieldPlace,oK,mQ]
 split at h<;>simp only[aL,aY,reduceCtorEq]at h<;>obtain⟨rfl,rfl⟩:=h
 ·simp_all[bw,Instr.fieldAt,bc,Instr.sureAddr,cz]
 ·rename_i xs;simp only[bw]at hx;obtain⟨b,o,rfl,hcell⟩:=hx;refine⟨.pointer (some ⟨b,o+f.offset,none⟩),?_,?_⟩
  ·simp_all[Instr.fieldAt,bc,Instr.sureAddr]
  ·simp only[bw];refine⟨b,o+f.offset,rfl,fun j hj=>?_⟩;obtain⟨hF,u,hu1,hu2⟩:=hcell (f.offset+j) ap;grind
theorem Xy {t x i d c a}(h:yE P t x i=some (d,c))(hc:c)(hx:bw w L F U x a):
  ∃v,(Instr.field t a i).run P w= .ok v w∧bw w L F U d v:=by
 unfold yE at h;split at h
 case h_2=>cases h
 rename_i ti hti;split at h
 case h_2=>cases h
 rename_i fs hfs;split at h
 case h_2=>cases h
 rename_i off ft hi;obtain⟨inf,z,u,g1,g2,g3,rfl⟩:=jg hti;obtain⟨fs',rfl,rfl⟩:=yJ hfs;have hf:∃f,fs'[i]?=some f∧f.offset=off∧f.type=ft:=by simp only[bp,bN,aY]at hi;obtain⟨f,h1,h2,h3⟩:=hi;exact ap
 obtain⟨f,hf,rfl,rfl⟩:=hf;split at h
 ·rename_i fi ds hfi;simp only[aL,aY]at h;obtain⟨rfl,rfl⟩:=h;simp only[bw]at hx;obtain⟨vs,rfl,hx⟩:=hx;rw[cA.iff]at hx;obtain⟨hl,hx⟩:=hx;obtain⟨h1,h2⟩:=hc;cases hagg:fi.agg
  ·have h3:=h2 hagg;have hlt:f.offset<vs.length:=ae
   simp_all[Instr.field,bc,part,asAgg,wz]
  ·refine⟨.agg (vs.toArray.extract f.offset (f.offset+fi.size)),?_,?_⟩
   ·simp_all[Instr.field,bc,part,asAgg,wz,oK]
   simp_all[bw,cA.iff]
 ·rename_i fi ds hfi;simp only[aL,aY]at h;obtain⟨rfl,rfl⟩:=h;simp only[bw]at hx;obtain⟨vs,rfl,hl,hx⟩:=hx.agg_inv;obtain⟨h1,h2⟩:=hc;cases hagg:fi.agg
  ·have h3:=h2 hagg;have hlt:f.offset<vs.length:=ae
   refine⟨vs.getD f.offset undef,?_,?_⟩
   all_goals simp_all[Instr.field,bc,part,asAgg,wz,bw]
  ·refine⟨.agg (vs.toArray.extract f.offset (f.offset+fi.size)),?_,?_⟩
   ·simp_all[Instr.field,bc,part,asAgg,wz,oK]
   ·simp only[cJ,bw];have he:Value.agg (vs.toArray.extract f.offset (f.offset+fi.size))= .agg ((vs.drop f.offset).take fi.size).toArray:=by simp[List.extract_eq_take_drop]
    rw[he];refine .agg _ _ ap (fun j hj=>?_);grind
 grind
theorem pf {t te}(h:fG P t=some te):∃e,P.underlying t=some (.slice e)∧cN P e=some te:=by grind[fG,jg,LC]
theorem CJ {xs:List FD}{v:Value}{n:Nat}(h:dD w F v (.sl xs))(hn:n<xs.length):∃b off cap,v= .slice (some ⟨b,off,none⟩) xs.length cap∧
  bw w L F U (.rp (xs.getD n .nilf).cells) (.pointer (some ⟨b,off+n*(xs.getD n .nilf).cells.length,none⟩)):=by
 obtain⟨a,cap,rfl,h1,h2,h3⟩:=h.sl_inv;obtain⟨b,off,es,vs,rfl,hF,hes,hcs,hrep⟩:=h3 ae;refine⟨b,off,cap,rfl,?_⟩;simp only[bw];refine⟨b,_,rfl,fun j hj=>?_⟩;have he:=hes n hn;exact⟨by simp_all[cz,vJ],vs n j,ap,ap⟩
theorem V1 {t x i d c a b}(h:sf P t x i=some (d,c))(hc:c)(hx:bw w L F U x a)(hi:bw w L F U i b):
  ∃v,(Instr.indexAt t a b).run P w= .ok v w∧bw w L F U d v:=by
 unfold sf at h;split at h
 case h_2=>cases h
 rename_i te k n hte;obtain⟨e,hu,he⟩:=pf hte;obtain⟨rfl,_⟩:=mH hi;split at h<;>simp only[aL,aY,reduceCtorEq]at h<;>obtain⟨rfl,rfl⟩:=h
 ·rename_i xs;obtain⟨h0,h1,h2⟩:=hc;simp only[bw]at hx;obtain⟨bb,off,cap,rfl,hr⟩:=CJ (L:=L) (U:=U) hx (n:=n.toNat) ae;rw[h2]at hr;refine⟨_,?_,hr⟩;simp[Instr.indexAt,asIntOf,bc hu,h0,h1,oK he,mQ]
 ·rename_i xs;obtain⟨h0,h1,h2⟩:=hc;simp only[bw]at hx;obtain⟨a',rfl,hx⟩:=hx;obtain⟨bb,off,cap,hv,hr⟩:=CJ (L:=L) (U:=U) hx (n:=n.toNat) ae;injection hv with hv1 hv2 hv3;subst hv1;rw[h2]at hr;refine⟨_,?_,hr⟩;simp[Instr.indexAt,asIntOf,bc hu,h0,h1,oK he,mQ]
 ·rename_i oid oes xs;obtain⟨h0,h1,h2⟩:=hc;simp only[bw]at hx;obtain⟨_,hx,a',cap',rfl,_⟩:=hx;obtain⟨bb,off,cap,hv,hr⟩:=CJ (L:=L) (U:=U) hx (n:=n.toNat) ae;injection hv with hv1 hv2 hv3;subst hv1;rw[h2]at hr;refine⟨_,?_,hr⟩;simp[Instr.indexAt,asIntOf,bc hu,h0,h1,oK he,mQ]
 ·rename_i id es s len;obtain⟨h0,h1,h2⟩:=hc;simp only[bw]at hx;obtain⟨hU,a',cap,rfl,hle,_,hcap⟩:=hx;rcases hcap with hcap|⟨rfl,_,hL,_⟩
  ·omega
  ·refine⟨.pointer (some ⟨(L id).1,(L id).2+s+n.toNat*te.size,none⟩),?_,?_⟩
   ·simp[Instr.indexAt,asIntOf,bc hu,h0,h1,oK he,mQ]
   simp_all[bw,cz]
theorem XA {t x i d c a b}(h:sE P t x i=some (d,c))(hc:c)(hx:bw w L F U x a)(hi:bw w L F U i b):
  ∃v,(Instr.index t a b).run P w= .ok v w∧bw w L F U d v:=by
 unfold sE at h;split at h
 case h_2=>cases h
 rename_i ti l k n hti;split at h
 case isFalse=>cases h
 rename_i hs;simp only[aL,aY]at h;obtain⟨rfl,rfl⟩:=h;obtain⟨inf,z,u,g1,g2,g3,rfl⟩:=jg hti;have hu:P.underlying t=some .string:=by rw[g3];congr 1;unfold TI.isStr at hs;exact (by grind[Ep])
 obtain⟨rfl,_⟩:=mH hi;obtain⟨s,rfl,hd,hsz,hmax⟩:=vs hx;obtain⟨h0,h1⟩:=hc;have hlt:n.toNat<s.size:=ae
 refine⟨.int .u8 (s[n.toNat].toNat),?_,?_⟩
 ·simp[Instr.index,asIntOf,bc hu,h0,ByteArray.getElem?_lt' s _ hlt]
 ·have:l.getD n.toNat 0=s[n.toNat]:=by subst hd;rw[av,ay ae];rfl
  rw[this];refine lW ⟨?_,?_⟩
  all_goals grind[IntKind.min,IntKind.signed,UInt8.toNat_lt,IntKind.max,IntKind.bits]
theorem Wm {x i d c a}(h:tm x i=some (d,c))(hx:bw w L F U x a):
  ∃v,(Instr.extract a i).run P w= .ok v w∧bw w L F U d v:=by
 unfold tm at h;split at h
 case h_2=>cases h
 rename_i ds;split at h
 case h_2=>cases h
 rename_i d' hd;simp only[aL,aY]at h;obtain⟨rfl,rfl⟩:=h;simp only[bw]at hx;obtain⟨vs,rfl,hx⟩:=hx;rw[cA.iff]at hx;obtain⟨hl,hx⟩:=hx;have hlt:i<ds.length:=by
  rcases aA i ds.length with h|h
  ·exact h
  ·grind
 refine⟨vs.getD i undef,?_,?_⟩
 ·simp_all[Instr.extract]
 grind
end
section
variable {P:Program} {G:Nat→List FD} {w:World} {L:Loc} {F:Nat→Nat→Prop} {U:Id→Prop} {H:bR}
theorem wO {ti:TI}(h:ti.isStr=true):ti.und= .str:=by grind[TI.isStr]
theorem th {ti:TI}(h:ti.isSlice=true):∃e,ti.und= .slice e:=by grind[TI.isSlice]
theorem LJ {ti:TI}{k}(h:ti.intK=some k):ti.und= .int k:=by grind[TI.intK]
theorem xd {t ti}(h:cN P t=some ti)(hs:ti.und= .str):P.underlying t=some .string:=by grind[jg,Ep]
theorem wA {t ti e}(h:cN P t=some ti)(hs:ti.und= .slice e):P.underlying t=some (.slice e):=by grind[jg,LC]
theorem MJ {t ti k}(h:cN P t=some ti)(hs:ti.und= .int k):P.underlying t=some (.int k):=by grind[jg,Sc]
theorem PV {t ti}(h:cN P t=some ti):∃u,P.underlying t=some u:=by grind[jg]
theorem xx {n:Nat}(h:n≤dt):inK .i64 (n:Int):=by unfold dt at h;refine⟨?_,?_⟩<;>simp[IntKind.min,IntKind.max,IntKind.signed,IntKind.bits]<;>omega
theorem Pg {t x d c a}{ts:Array TypeId}{ty}(h:sO P t x=some (d,c))(hx:bw w L F U x a)(ht:ts[0]?=some t):
  ∃v,(Builtin.len_ ts ty #[a]).run P w= .ok v w∧bw w L F U d v:=by
 unfold sO at h;split at h
 ·rename_i ti l hti;split at h<;>simp only[aL,aY,reduceCtorEq]at h;rename_i hs;obtain⟨rfl,rfl⟩:=h;obtain⟨s,rfl,hd,hsz,hmax⟩:=vs hx;exact⟨_,by simp[Builtin.len_,ht,bc (xd hti (wO hs)),goInt,hsz],lW (xx hmax)⟩
 ·rename_i ti l hti;split at h<;>simp only[aL,aY,reduceCtorEq]at h;rename_i hs;obtain⟨rfl,rfl⟩:=h;obtain⟨e,he⟩:=th hs;simp only[bw]at hx;obtain⟨a,cap,rfl,h1,h2,h3⟩:=hx.sl_inv;exact⟨_,qQw,lW (xx h2)⟩
 ·rename_i ti l hti;split at h<;>simp only[aL,aY,reduceCtorEq]at h;rename_i hs;obtain⟨rfl,rfl⟩:=h;obtain⟨e,he⟩:=th hs;simp only[bw]at hx;obtain⟨a,rfl,hx⟩:=hx;obtain⟨a,cap,_,h1,h2,h3⟩:=hx.sl_inv;exact⟨_,qQw,lW (xx h2)⟩
 ·rename_i ti oid oes l hti;split at h<;>simp only[aL,aY,reduceCtorEq]at h;rename_i hs;obtain⟨rfl,rfl⟩:=h;obtain⟨e,he⟩:=th hs;simp only[bw]at hx;obtain⟨_,hx,_,_,rfl,_⟩:=hx;obtain⟨a,cap,_,h1,h2,h3⟩:=hx.sl_inv;exact⟨_,qQw,lW (xx h2)⟩
 ·rename_i ti id es s len hti;split at h<;>simp only[aL,aY,reduceCtorEq]at h;rename_i hs;obtain⟨rfl,rfl⟩:=h;obtain⟨e,he⟩:=th hs;simp only[bw]at hx;obtain⟨_,a,cap,rfl,h1,h2,h3⟩:=hx;simp_all[Builtin.len_,bc,wA,goInt,lW,xx]
 grind
theorem Zo {s t x d c a}(h:pX P s t x=some (d,c))(hc:c)(hx:bw w L F U x a):
  ∃v,(convert s t a).run P w= .ok v w∧bw w L F U d v:=by
 unfold pX at h;split at h
 ·rename_i si ti k n hs ht;split at h<;>simp only[aL,aY,reduceCtorEq]at h;rename_i k' hk;obtain⟨rfl,rfl⟩:=h;obtain⟨u,hu⟩:=PV hs;rw[(mH hx).1];exact⟨_,by simp[convert,bc hu,bc (MJ ht (LJ hk)),Conv.intToInt,tG hc],lW hc⟩
 ·rename_i si ti l hs ht;split at h<;>simp only[aL,aY,reduceCtorEq]at h;rename_i hb;obtain⟨rfl,rfl⟩:=h;simp only[aS]at hb;obtain⟨str,rfl,hd,hsz,hmax⟩:=vs hx;exact⟨_,by simp[convert,bc (xd hs (wO hb.1)),bc (xd ht (wO hb.2))],vZ hd hmax⟩
 ·rename_i si ti n hs ht;split at h
  ·rename_i hk;split at h<;>simp only[aL,aY,reduceCtorEq]at h;rename_i hb;obtain⟨rfl,rfl⟩:=h;obtain⟨te,h1,h2⟩:=fP.1 hk;obtain⟨e,he,hte⟩:=pf h1;simp only[bw]at hx;obtain⟨a0,rfl,hx2⟩:=hx;obtain⟨a',cap,e1,_,_,hx3⟩:=hx2.sl_inv;obtain⟨b,off,es,vs,rfl,_,h5,h6,h7⟩:=hx3 ak;simp only[Value.slice.injEq]at e1;obtain⟨rfl,_,_⟩:=e1;have hes:es=1:=by have:=h5 0 ak;simpa[FD.cells]using this.symm
   subst hes;have h8:=h7 0 0 ak ae;simp only[dr,FD.cells]at h8;have h9:=h6 0 0 ak ae;rw[h8.int_inv.1]at h9;have h10:(loadCells ⟨b,off,none⟩ 1).run P w= .ok #[Value.int .u8 n] w:=by have:=run_loadCells (P:=P) (w:=w) ⟨b,off,none⟩ 1 (fun _=>Value.int .u8 n) (by grind[World.at,Addr.add]);simpa using this
   refine⟨.string (ByteArray.empty.push (UInt8.ofNat n.toNat)),?_,vZ rfl ae⟩;simp[convert,bc he,bc (MJ hte (LJ h2)),bc (xd ht (wO hb)),Conv.bytesToString,h10]
  grind
 grind
theorem xh {lo:Option D}{l:Int}(h:nu lo=some l){a:Option Value}(ha:∀x,lo=some x→∃v,a=some v∧bw w L F U x v)(hn:lo=none→a=none):
  (lo=none∧a=none∧l=0)∨∃k,a=some (.int k l):=by
 cases lo with
 |none=>simp_all[nu]
 |some x=>obtain⟨v,rfl,hv⟩:=ha x rfl;simp only[nu]at h;split at h<;>simp_all;exact⟨_,(mH hv).1⟩
theorem w5 {len:Nat}{hi:Option D}{l:Int}(h:mP len hi=some l){a:Option Value}(ha:∀x,hi=some x→∃v,a=some v∧bw w L F U x v)(hn:hi=none→a=none):
  (hi=none∧a=none∧l=len)∨∃k,a=some (.int k l):=by
 cases hi with
 |none=>simp_all[mP]
 |some x=>obtain⟨v,rfl,hv⟩:=ha x rfl;simp only[mP]at h;split at h<;>simp_all;exact⟨_,(mH hv).1⟩
theorem uI {isS:Bool}{len cap:Nat}{a b:Option Value}{l h:Int}(ha:(a=none∧l=0)∨∃k,a=some (.int k l))(hb:(b=none∧h=len)∨∃k,b=some (.int k h))
  (h0:0≤l)(h1:l≤h)(h2:h≤len)(hcap:len≤cap):
  (Instr.sliceBounds isS len cap a b none).run P w= .ok (l.toNat,h.toNat,cap) w:=by
 have hh:0≤h:=ae
 rcases ha with⟨rfl,rfl⟩|⟨k,rfl⟩<;>rcases hb with⟨rfl,rfl⟩|⟨k',rfl⟩
 ·rfl
 ·simp[Instr.sliceBounds,Instr.sliceBound,asIntOf,hh,show h≤cap by omega]
 ·simp[Instr.sliceBounds,Instr.sliceBound,asIntOf,h0,h1]
 ·simp[Instr.sliceBounds,Instr.sliceBound,asIntOf,hh,h0,show h≤cap by omega,show(l≤max h 0) by omega]
theorem BI {len cap:Nat}{a b:Option Value}{l h:Int}{km kh:IntKind}(ha:(a=none∧l=0)∨∃k,a=some (.int k l))(hb:b=some (.int kh h))
  (h0:0≤l)(h1:l≤h)(h2:h≤len)(hcap:len≤cap):
  (Instr.sliceBounds true len cap a b (some (.int km h))).run P w= .ok (l.toNat,h.toNat,h.toNat) w:=by
 have hh:0≤h:=ae
 subst hb;rcases ha with⟨rfl,rfl⟩|⟨k,rfl⟩
 ·simp[Instr.sliceBounds,Instr.sliceBound,asIntOf,hh,show h≤cap by omega];omega
 ·simp[Instr.sliceBounds,Instr.sliceBound,asIntOf,hh,h0,show h≤cap by omega,show(l≤max h 0) by omega];omega
theorem wZ {xs:List FD}{l h:Int}(h0:0≤l)(h1:l≤h)(h2:h≤xs.length):(ku xs l h).length=h.toNat-l.toNat:=by simp[ku];omega
theorem VY {xs:List FD}{l h:Int}{i:Nat}(hi:i<(ku xs l h).length):(ku xs l h).getD i .nilf=xs.getD (l.toNat+i) .nilf:=by grind[ku]
theorem tq {xs:List FD}{a:Option Addr}{len cap m:Nat}{l h:Int}{size:Nat}(hx:dD w F (.slice a len cap) (.sl xs))(h0:0≤l)(h1:l≤h)(h2:h≤xs.length)
  (hs:l=0∨l=h∨(xs.getD l.toNat .nilf).cells.length=size)(hm:h.toNat≤m):
  dD w F (.slice (if m=l.toNat then a else a.map (·.add (l.toNat*size))) (h.toNat-l.toNat) (m-l.toNat)) (.sl (ku xs l h)):=by
 obtain⟨a',cap',he,h3,h4,h5⟩:=hx.sl_inv;injection he with e1 e2 e3;subst e1;subst e2;subst e3;have hlen:=wZ h0 h1 h2;have key:=dD.sl_mk (w:=w) (F:=F) (xs:=ku xs l h) (a:=if m=l.toNat then a else a.map (·.add (l.toNat*size))) (cap:=m-l.toNat) ae ae (fun hpos=>?_)
 ·grind
 obtain⟨b,off,es,vs,rfl,hF,hes,hcs,hrep⟩:=h5 ae;have hml:¬m=l.toNat:=ae
 have hsz:l.toNat*size=l.toNat*es:=by
  rcases hs with hs|hs|hs
  ·grind
  ·omega
  ·grind
 refine⟨b,off+l.toNat*es,es,fun i j=>vs (l.toNat+i) j,by simp[hml,mQ,hsz],fun k hk=>?_,fun i hi=>?_,fun i j hi hj=>?_,fun i j hi hj=>?_⟩
 ·rw[cz];refine hF _ ?_;rw[hlen]at hk
  calc l.toNat*es+k<l.toNat*es+(h.toNat-l.toNat)*es:=ae
   _=(l.toNat+(h.toNat-l.toNat))*es:=(ci _ _ _).symm
   _≤xs.length*es:=bW _ ae
 all_goals grind[VY]
theorem XB {t x lo hi mx d c a la ha ma}(h:oh P t x lo hi mx=some (d,c))(hc:c)(hx:bw w L F U x a)
  (hla:∀x,lo=some x→∃v,la=some v∧bw w L F U x v)(hln:lo=none→la=none)
  (hha:∀x,hi=some x→∃v,ha=some v∧bw w L F U x v)(hhn:hi=none→ha=none)
  (hma:∀x,mx=some x→∃v,ma=some v∧bw w L F U x v)(hmn:mx=none→ma=none):
  ∃v,(Instr.sliceAt t a la ha ma).run P w= .ok v w∧bw w L F U d v:=by
 unfold oh at h;split at h
 ·
  rename_i ti s hti;split at h
  case isFalse=>cases h
  rename_i hs;have hu:=xd hti (wO hs);split at h<;>simp only[aL,aY,reduceCtorEq]at h;rename_i l hh hl hhi;obtain⟨rfl,rfl⟩:=h;obtain⟨h0,h1,h2⟩:=hc;rw[hmn rfl];obtain⟨str,rfl,hd,hsz,hmax⟩:=vs hx;have el:=xh (w:=w) (L:=L) (F:=F) (U:=U) hl hla hln;have eh:=w5 (w:=w) (L:=L) (F:=F) (U:=U) hhi hha hhn
  have hb:=uI (P:=P) (w:=w) (isS:=false) (len:=str.size) (cap:=str.size) (a:=la) (b:=ha) (l:=l) (h:=hh)
   ap ap h0 h1 ae (aI _)
  refine⟨.string (str.extract l.toNat hh.toNat),?_,vZ ?_ ?_⟩
  ·simp[Instr.sliceAt,bc hu,Instr.slice,hb]
  ·simp_all[List.drop_take]
  grind
 ·rename_i ti xs hti;split at h
  case h_2=>cases h
  rename_i te l hh hte hl hhi;obtain⟨e,hu,he⟩:=pf hte;simp only[bw]at hx;obtain⟨aa,cap,rfl,g1,g2,_⟩:=hx.sl_inv;have el:=xh (w:=w) (L:=L) (F:=F) (U:=U) hl hla hln;have eh:=w5 (w:=w) (L:=L) (F:=F) (U:=U) hhi hha hhn;split at h
  ·simp only[aL,aY]at h;obtain⟨rfl,rfl⟩:=h;obtain⟨h0,h1,h2,h3⟩:=hc;rw[hmn rfl]
   have hb:=uI (P:=P) (w:=w) (isS:=true) (len:=xs.length) (cap:=cap) (a:=la) (b:=ha) (l:=l) (h:=hh)
    ap ap h0 h1 h2 g1
   refine⟨_,qQg,?_⟩;simp only[bw];exact tq hx h0 h1 h2 h3 ae
  ·simp only[aL,aY]at h;obtain⟨rfl,rfl⟩:=h;rename_i km m hx3;obtain⟨h0,h1,h2,hm3,h3⟩:=hc;obtain⟨mv,rfl,hmv⟩:=hma _ rfl;rw[(mH hmv).1,hm3];rcases eh with⟨e1,_⟩|⟨kh,rfl⟩
   ·cases e1
   have hb:=BI (P:=P) (w:=w) (len:=xs.length) (cap:=cap) (a:=la) (l:=l) (h:=hh) (km:=km) (kh:=kh)
    ap rfl h0 h1 h2 g1
   refine⟨_,qQg,?_⟩;simp only[bw];rw[wZ h0 h1 h2];exact⟨_,rfl,tq hx h0 h1 h2 h3 (aI _)⟩
  grind
 ·rename_i ti xs hti;split at h
  case h_2=>cases h
  rename_i te l hh hte hl hhi;obtain⟨e,hu,he⟩:=pf hte;simp only[bw]at hx;obtain⟨aa,rfl,hx⟩:=hx;have g1:xs.length≤xs.length:=aI _;have el:=xh (w:=w) (L:=L) (F:=F) (U:=U) hl hla hln;have eh:=w5 (w:=w) (L:=L) (F:=F) (U:=U) hhi hha hhn;split at h
  ·simp only[aL,aY]at h;obtain⟨rfl,rfl⟩:=h;obtain⟨h0,h1,h3⟩:=hc;rw[hmn rfl];rw[hhn rfl];have h2:hh=xs.length:=by simpa[mP]using hhi.symm
   subst h2
   have hb:=uI (P:=P) (w:=w) (isS:=true) (len:=xs.length) (cap:=xs.length) (a:=la) (b:=none) (l:=l) (h:=xs.length)
    ap ap h0 h1 ae g1
   refine⟨_,qQg,?_⟩;simp only[bw];rw[wZ h0 h1 ae];exact⟨_,rfl,tq hx h0 h1 ae h3 ae⟩
  ·simp only[aL,aY]at h;obtain⟨rfl,rfl⟩:=h;obtain⟨h0,h1,h2,h3⟩:=hc;rw[hmn rfl]
   have hb:=uI (P:=P) (w:=w) (isS:=true) (len:=xs.length) (cap:=xs.length) (a:=la) (b:=ha) (l:=l) (h:=hh)
    ap ap h0 h1 h2 g1
   refine⟨_,qQg,?_⟩;simp only[bw];exact tq hx h0 h1 h2 h3 ae
  ·simp only[aL,aY]at h;obtain⟨rfl,rfl⟩:=h;rename_i km m hx3;obtain⟨h0,h1,h2,hm3,h3⟩:=hc;obtain⟨mv,rfl,hmv⟩:=hma _ rfl;rw[(mH hmv).1,hm3];rcases eh with⟨e1,_⟩|⟨kh,rfl⟩
   ·cases e1
   have hb:=BI (P:=P) (w:=w) (len:=xs.length) (cap:=xs.length) (a:=la) (l:=l) (h:=hh) (km:=km) (kh:=kh)
    ap rfl h0 h1 h2 g1
   refine⟨_,qQg,?_⟩;simp only[bw];rw[wZ h0 h1 h2];exact⟨_,rfl,tq hx h0 h1 h2 h3 (aI _)⟩
  grind
 ·rename_i ti oid oes xs hti;split at h
  case h_2=>cases h
  rename_i te l hh hte hl hhi;obtain⟨e,hu,he⟩:=pf hte;simp only[bw]at hx;obtain⟨_,hx,aa0,cap0,hv0,_⟩:=hx;obtain⟨aa,cap,hv,g1,g2,_⟩:=hx.sl_inv;subst hv;have el:=xh (w:=w) (L:=L) (F:=F) (U:=U) hl hla hln;have eh:=w5 (w:=w) (L:=L) (F:=F) (U:=U) hhi hha hhn;split at h
  ·simp only[aL,aY]at h;obtain⟨rfl,rfl⟩:=h;obtain⟨h0,h1,h2,h3⟩:=hc;rw[hmn rfl]
   have hb:=uI (P:=P) (w:=w) (isS:=true) (len:=xs.length) (cap:=cap) (a:=la) (b:=ha) (l:=l) (h:=hh)
    ap ap h0 h1 h2 g1
   refine⟨_,qQg,?_⟩;simp only[bw];exact tq hx h0 h1 h2 h3 ae
  ·simp only[aL,aY]at h;obtain⟨rfl,rfl⟩:=h;rename_i km m hx3;obtain⟨h0,h1,h2,hm3,h3⟩:=hc;obtain⟨mv,rfl,hmv⟩:=hma _ rfl;rw[(mH hmv).1,hm3];rcases eh with⟨e1,_⟩|⟨kh,rfl⟩
   ·cases e1
   have hb:=BI (P:=P) (w:=w) (len:=xs.length) (cap:=cap) (a:=la) (l:=l) (h:=hh) (km:=km) (kh:=kh)
    ap rfl h0 h1 h2 g1
   refine⟨_,qQg,?_⟩;simp only[bw];rw[wZ h0 h1 h2];exact⟨_,rfl,tq hx h0 h1 h2 h3 (aI _)⟩
  grind
 ·rename_i ti aid es s len hti;split at h<;>simp only[aL,aY,reduceCtorEq]at h;rename_i te l hh hte hl hhi;obtain⟨rfl,rfl⟩:=h;obtain⟨e,hu,he⟩:=pf hte;obtain⟨h0,h1,h2,h3⟩:=hc;simp only[bw]at hx;obtain⟨hU,aa,cap,rfl,g1,g2,g3⟩:=hx;rw[hmn rfl];have el:=xh (w:=w) (L:=L) (F:=F) (U:=U) hl hla hln;have eh:=w5 (w:=w) (L:=L) (F:=F) (U:=U) hhi hha hhn
  have hb:=uI (P:=P) (w:=w) (isS:=true) (len:=len) (cap:=cap) (a:=la) (b:=ha) (l:=l) (h:=hh)
   ap ap h0 h1 h2 g1
  refine⟨_,qQg,?_⟩;simp only[bw];refine⟨hU,_,_,by congr 1;omega,ae,ae,?_⟩;by_cases hcl:cap=l.toNat
  ·omega
  ·rcases g3 with g3|⟨rfl,g6,g4,g5⟩
   ·omega
   ·refine .inr ⟨by grind[mQ],g6,g4,fun cs T fr hcs=>?_⟩;have:=g5 cs T fr hcs;have e1:(cap-l.toNat)*es+l.toNat*es=cap*es:=by rw[←ci];congr 1;omega
    omega
 grind
end
section
variable {P:Program} {G:Nat→List FD} {w:World} {L:Loc} {F:Nat→Nat→Prop} {U:Id→Prop} {H:bR}
theorem CT (v:Value):bw w L F U (r5 v) v:=by
 unfold r5;split
 ·exact pY _
 ·rename_i k n;split
  ·rename_i h;subst h;exact lW ⟨by cases k<;>decide,by cases k<;>decide⟩
  ·simp[bw]
 ·rename_i s;split
  ·rename_i h;refine vZ ?_ ak;simp_all
  ·simp[bw]
 ·simp only[bw];exact⟨none,rfl,.sl0 none 0⟩
 ·simp only[bw];exact .nilf
 ·simp[bw]
theorem MB (z:Value):cA w L F U (z.cells.toList.map r5) z.cells.toList:=by
 generalize z.cells.toList=l;induction l with
 |nil=>simp[cA]
 |cons v l ih=>simp_all[cA,CT]
theorem OR {ds:List D}{vs:List Value}(h:cA w L F U ds vs)(k:Nat){d:D}{v:Value}(hd:bw w L F U d v):cA w L F U (ds.set k d) (vs.set k v):=by grind[cA.iff]
theorem H9:∀(new:List D) (nv:List Value) (i off:Nat) (ds:List D) (vs:Array Value),cA w L F U new nv→cA w L F U ds vs.toList→
  cA w L F U ((new.zipIdx i).foldl (fun cs p=>cs.set (off+p.2) p.1) ds) ((nv.zipIdx i).foldl (fun cs (p:Value×Nat)=>cs.setIfInBounds (off+p.2) p.1) vs).toList
 |[],[],_,_,_,_,_,h=>aq
 |d::new,v::nv,i,off,ds,vs,hn,h=>by grind[cA,List.zipIdx_cons,OR,H9 new nv (i+1) off _ _ hn.2 ?_]
 |[],_::_,_,_,_,_,hn,_=>hn.elim
 |_::_,[],_,_,_,_,hn,_=>hn.elim
theorem KR (cells:List D)(off:Nat)(new:List D):(mh cells off new).length=cells.length:=by
 unfold mh;generalize new.zipIdx=l;induction l generalizing cells with
 |nil=>rfl
 |cons x l ih=>simp[ih]
theorem Kq {fs:Array Field}:∀(ps:List (Nat×D)) (pv:List (Nat×Value)) (cells:List D) (vs:Array Value) (ds:List D) (c:Prop),
  oQ P (fs.toList.map fun f=>(f.offset,f.type)) cells ps=some (ds,c)→c→cA w L F U cells vs.toList→
  pv.length=ps.length→(∀(j:Nat) (p:Nat×D) (q:Nat×Value),ps[j]?=some p→pv[j]?=some q→p.1=q.1∧p.2≠D.junk∧bw w L F U p.2 q.2)→
  ∃us,Instr.fill ((fs.map fun f=>(f.offset,(cN P f.type).elim 0 TI.size))[·]?) vs pv=some us∧cA w L F U ds us.toList
 |[],pv,cells,vs,ds,c,h,_,hv,hl,_=>by
  obtain rfl:pv=[]:=ap
  simp only[oQ,aL,aY]at h;obtain⟨rfl,_⟩:=h;exact⟨vs,rfl,hv⟩
 |(i,d)::ps,[],cells,vs,ds,c,h,_,hv,hl,_=>ap
 |(i,d)::ps,(i',v)::pv,cells,vs,ds,c,h,hc,hv,hl,hp=>by
  obtain⟨e1,e2,e3⟩:=hp 0 (i,d) (i',v) rfl rfl;dsimp only at e1 e2 e3;subst e1;simp only[oQ]at h;split at h
  case h_1=>cases h
  rename_i off ft hi;split at h
  case h_1=>cases h
  rename_i fi hfi;split at h
  case h_2=>cases h
  rename_i cs c' hrest;simp only[aL,aY]at h;obtain⟨rfl,rfl⟩:=h;obtain⟨⟨h1,h2⟩,h3⟩:=hc;have hcs:=bw.cs e3 e2;have hlen:v.cells.size=fi.size:=by have:=((cA.iff _ _).1 hcs).1;simp at this;omega
  have hvl:vs.size=cells.length:=by have:=((cA.iff _ _).1 hv).1;simpa using this
  have hset:=H9 d.cs v.cells.toList 0 off cells vs hcs hv;obtain⟨us,hu1,hu2⟩:=Kq ps pv (mh cells off d.cs) _ cs c' hrest h3 hset ap (fun j p q hj hq=>hp (j+1) p q ap ap);refine⟨us,?_,hu2⟩;have hf:(fs.map fun f=>(f.offset,(cN P f.type).elim 0 TI.size))[i]?=some (off,fi.size):=by
   simp only[bp,bN,aY]at hi;obtain⟨f,g1,g2,g3⟩:=hi;have:fs[i]?=some f:=by simpa using g1
   simp[this,g2,g3,hfi]
  grind[Instr.fill,Array.toList_zipIdx]
theorem X4 {fs:Array Field}(h:∀f∈fs.toList,∃fi,cN P f.type=some fi):
  (fs.mapM fun f=>(do pure (f.offset,←sizeOf f.type):Sem (Nat×Nat))).run P w= .ok (fs.map fun f=>(f.offset,(cN P f.type).elim 0 TI.size)) w:=by
 rw[←gJ (xs:=fs)]at*;generalize fs.toList=l at*;rw[List.mapM_toArray];have:(l.mapM fun f=>(do pure (f.offset,←sizeOf f.type):Sem (Nat×Nat))).run P w= .ok (l.map fun f=>(f.offset,(cN P f.type).elim 0 TI.size)) w:=by
  induction l with
  |nil=>simp
  |cons f l ih=>obtain⟨fi,hfi⟩:=h f ak;simp_all[oK]
 simp_all
theorem zh {d:D}(h:d.known=true):d≠ .junk:=by grind[D.known]
theorem Xx {t d c}{ps:Array (Nat×Operand)}{ev:Operand→D}{ρ:Operand→Value}(h:sH P t (ps.toList.map fun p=>(p.1,ev p.2))=some (d,c))(hc:c)
  (hk:ps.toList.all (fun p=>(ev p.2).known)=true)(hr:∀x,bw w L F U (ev x) (ρ x)):
  ∃v,(Instr.build t (ps.map fun(i,x)=>(i,ρ x))).run P w= .ok v w∧bw w L F U d v:=by
 unfold sH at h;split at h
 case h_2=>cases h
 rename_i ti hti;split at h
 case h_2=>cases h
 rename_i fs hfs;split at h
 case isFalse=>cases h
 rename_i hall;split at h
 case h_2=>cases h
 rename_i cs c' hfill;simp only[aL,aY]at h;obtain⟨rfl,rfl⟩:=h;obtain⟨inf,z,u,g1,g2,g3,rfl⟩:=jg hti;obtain⟨fs',rfl,rfl⟩:=yJ hfs;have hfields:∀f∈fs'.toList,∃fi,cN P f.type=some fi:=by intro f hf;simp only[List.all_map,cB]at hall;exact Option.isSome_iff_exists.1 (hall f hf)
 obtain⟨us,hu1,hu2⟩:=Kq (w:=w) (L:=L) (F:=F) (U:=U) _ (ps.toList.map fun p=>(p.1,ρ p.2)) _ z.cells cs c' hfill hc (MB z) ak
  (by grind[zh])
 refine⟨.agg us,?_,?_⟩
 ·have hz:(zeroValue t).run P w= .ok z w:=by simp[zeroValue,typeInfo,g1,g2]
  have hm:(ps.map fun(i,x)=>(i,ρ x)).toList=ps.toList.map fun p=>(p.1,ρ p.2):=ak
  simp only[Instr.build,dG,hz,cV,bc g3,X4 hfields,hm,hu1,gn]
 grind[bw]
end
section
variable {P:Program} {G:Nat→List FD} {w:World} {L:Loc} {F:Nat→Nat→Prop} {U:Id→Prop} {H:bR}
theorem Zp {x y z d c a b e}(h:rU x y z=some (d,c))(hx:bw w L F U x a)(hy:bw w L F U y b)(hz:bw w L F U z e):
  ∃t,a= .bool t∧bw w L F U d (if t then b else e):=by
 unfold rU at h;split at h<;>simp only[aL,aY,reduceCtorEq]at h;rename_i t;obtain⟨rfl,rfl⟩:=h;refine⟨t,vb hx,?_⟩;grind
theorem RN {k:IntKind}{a b:Int}(ha:inK k a)(hb:inK k b):inK k (max a b):=ap
theorem RO {k:IntKind}{a b:Int}(ha:inK k a)(hb:inK k b):inK k (min a b):=ap
theorem Zg {ev:Operand→D}{args:Array Operand}{x:D}(h:args.toList.map ev=[x]):∃o,args= #[o]∧ev o=x:=by
 cases args with
 |mk l=>simp_all
theorem Lp {ev:Operand→D}{args:Array Operand}{x y:D}(h:args.toList.map ev=[x,y]):∃o p,args= #[o,p]∧ev o=x∧ev p=y:=by
 cases args with
 |mk l=>
  match l,h with
  |[o,p],h=>grind
theorem Wl {b:Builtin}{ts:Array TypeId}{args:Array Operand}{ty:TypeId}{ev:Operand→D}{ρ:Operand→Value}{d c}
  (h:nr P b ts (args.toList.map ev)=some (d,c))(hc:c)(hr:∀x,bw w L F U (ev x) (ρ x)):
  ∃v,(∀cs,(builtin b ts ty cs (args.map ρ)).run P w= .ok (.value v) w)∧bw w L F U d v:=by
 unfold nr at h;split at h
 ·rename_i x hx;obtain⟨o,rfl,rfl⟩:=Zg hx;split at h
  case h_2=>cases h
  rename_i t ht;obtain⟨v,h1,h2⟩:=Pg (ty:=ty) h (hr o) ht;simp_all[builtin]
 ·rename_i k a k' b' hx;obtain⟨o,p,rfl,ho,hp⟩:=Lp hx;simp only[aL,aY]at h;obtain⟨rfl,rfl⟩:=h;subst hc;have h1:=hr o;rw[ho]at h1;have h2:=hr p;rw[hp]at h2;obtain⟨e1,i1⟩:=mH h1;obtain⟨e2,i2⟩:=mH h2;refine⟨.int k (max a b'),?_,lW (RN i1 i2)⟩;have:(if b'>a then b' else a)=max a b':=by rw[Int.max_def];split<;>split<;>omega
  simp_all[builtin,run_max_int2]
 ·rename_i k a k' b' hx;obtain⟨o,p,rfl,ho,hp⟩:=Lp hx;simp only[aL,aY]at h;obtain⟨rfl,rfl⟩:=h;subst hc;have h1:=hr o;rw[ho]at h1;have h2:=hr p;rw[hp]at h2;obtain⟨e1,i1⟩:=mH h1;obtain⟨e2,i2⟩:=mH h2;refine⟨.int k (min a b'),?_,lW (RO i1 i2)⟩;have:(if b'<a then b' else a)=min a b':=by rw[Int.min_def];split<;>split<;>omega
  simp_all[builtin,run_min_int2]
 grind
theorem cA.map {ev:Operand→D}{ρ:Operand→Value}(hr:∀x,bw w L F U (ev x) (ρ x))(l:List Operand):cA w L F U (l.map ev) (l.map ρ):=by
 induction l with
 |nil=>simp[cA]
 |cons a l ih=>simp_all[cA]
theorem Pj {o:Oper}{ev:Operand→D}{ρ:Operand→Value}{d c}(h:gD P o ev H=some (d,c))(hc:c)(hok:OkW G w L F U H)(hr:∀x,bw w L F U (ev x) (ρ x)):
  ∃v,(execOp ρ o).run P w= .ok (.value v) w∧bw w L F U d v:=by
 have lift:∀{s:Sem Value} {v:Value},s.run P w= .ok v w→(do pure (.value (←s)):Sem Next).run P w= .ok (.value v) w:=fun hs=>by simp[hs]
 unfold gD at h;split at h
 case h_1 x heq=>
  simp only[aL,aY]at h;obtain⟨rfl,rfl⟩:=h;simp_all[execOp]
 case h_2 x heq=>
  simp only[aL,aY]at h;obtain⟨rfl,rfl⟩:=h;simp_all[execOp]
 case h_3 x y z heq=>
  obtain⟨t,ht,hv⟩:=Zp h (hr x) (hr y) (hr z);simp_all[execOp,asBool]
 case h_4 t ps heq=>
  split at h
  case isFalse=>cases h
  rename_i hk;obtain⟨v,h1,h2⟩:=Xx h hc hk hr;simp_all[execOp]
 case h_5 t a heq=>
  grind[JV,execOp]
 case h_6 x heq=>
  obtain⟨⟨p,hp⟩,h2⟩:=Ph h (hr x);simp_all[execOp]
 case h_7 op t x y _ heq=>
  obtain⟨v,h1,h2⟩:=Pa (X:=x) (Y:=y) h hc (hr x) (hr y);grind[execOp]
 case h_8 op _ x heq=>
  obtain⟨v,h1,h2⟩:=Rg h hc (hr x);exact⟨v,by simp only[execOp,heq];exact lift h1,h2⟩
 case h_9 s t x heq=>
  grind[Zo,execOp]
 case h_10 f first caps heq=>
  split at h
  case isFalse=>cases h
  rename_i hz;simp only[aL,aY]at h;obtain⟨rfl,rfl⟩:=h;obtain rfl:first= #[]:=ap
  refine⟨.func (.func f) #[] (caps.map ρ),by simp[execOp,heq,Instr.makeFunc],?_⟩;simp only[bw];exact⟨caps.toList.map ρ,by cases caps;simp,cA.map hr _⟩
 case h_11 t x lo hi mx heq=>
  obtain⟨v,h1,h2⟩:=XB (la:=lo.map ρ) (ha:=hi.map ρ) (ma:=mx.map ρ) h hc (hr x)
   (by grind[Option.map_eq_some_iff]) (fun hn=>aq)
   (by grind[Option.map_eq_some_iff]) (fun hn=>aq)
   (by grind[Option.map_eq_some_iff]) (fun hn=>aq)
  simp_all[execOp]
 case h_12 t x i heq=>
  grind[VZ,execOp]
 case h_13 t x i heq=>
  grind[Xy,execOp]
 case h_14 t x i heq=>
  grind[V1,execOp]
 case h_15 t x i heq=>
  grind[XA,execOp]
 case h_16 x i heq=>
  obtain⟨v,h1,h2⟩:=Wm h (hr x);exact⟨v,by simp only[execOp,heq];exact lift h1,h2⟩
 case h_17 cl heq=>
  split at h
  case h_2=>cases h
  rename_i b hb;obtain⟨v,h1,h2⟩:=Wl (ty:=o.type) h hc hr;simp_all[execOp,resolve,invoke]
 grind
end
def cp (H:bR)(id:Id)(o:Option O):bR:=fun j=>if j=id then o else H j
def fj (L:Loc)(id:Id)(p:LP):Loc:=fun j=>if j=id then p else L j
structure j' (w:World)(ob:Obj)(w':World):Prop where
 heap:w'.heap=w.heap.push ob
 os:w'.os=w.os
 tape:w'.tape=w.tape
 output:w'.output=w.output
 drawn:w.drawn≤w'.drawn
theorem j'.alloc (w:World)(ob:Obj):j' w ob (w.alloc ob):=⟨rfl,rfl,rfl,rfl,aI _⟩
theorem j'.drewAlloc (w:World)(ob:Obj):j' w ob (w.drew.alloc ob):=⟨rfl,rfl,rfl,rfl,Nat.le_succ _⟩
theorem j'.old {w w' ob}(h:j' w ob w'){b:Nat}(hb:b<w.heap.size):w'.heap[b]?=w.heap[b]?:=by rw[h.heap,Array.getElem?_push,az ae]
theorem j'.new {w w' ob}(h:j' w ob w'):w'.heap[w.heap.size]?=some ob:=by rw[h.heap];simp
theorem j'.size {w w' ob}(h:j' w ob w'):w'.heap.size=w.heap.size+1:=by rw[h.heap];simp
theorem OkW.blk_lt {G w L F U H}(h:OkW G w L F U H){id o}(ho:H id=some o)(hv:(L id).3=false):(L id).1<w.heap.size:=by obtain⟨_,cs,T,hb,_⟩:=iL (h.live id o ho).2 hv;grind
theorem iT.ext {w L F U w' L' F' U'}(e:Ext w L F U w' L' F' U'){id:Id}{o:O}(hU:U id)(h:iT w L F U id o)
  (hk:(L id).3=false→w'.heap[(L id).1]?=w.heap[(L id).1]?∧∀k,(L id).2≤k→¬F' (L id).1 k):iT w' L' F' U' id o:=by
 unfold iT at h ⊢;rw[e.l _ hU];cases hv:(L id).3
 ·simp only[hv,bK,cd]at h ⊢;obtain⟨h1,cs,T,h2,h3,h4⟩:=h;exact⟨(hk hv).2,cs,T,ap,h3,fun j hj=>let⟨v,a,b⟩:=h4 j hj;⟨v,a,b.ext e⟩⟩
 grind
theorem rH {G:Nat→List FD}{w w':World}{F F':Nat→Nat→Prop}(hf:∀b k,F b k→F' b k)(hk:∀b k,F b k→World.at w' b k=World.at w b k)
  (h:vC G w F):vC G w' F':=by
 refine⟨fun g j hj=>?_,fun g hg=>?_⟩
 ·obtain⟨h1,v,h2,h3⟩:=h.1 g j hj;exact⟨hf _ _ h1,v,ap,h3.mono hk hf⟩
 ·obtain⟨h1,h2⟩:=h.2 g hg;grind
theorem De {G w L F U H}(hok:OkW G w L F U H){w'}{cs:Array Value}{T:TypeId}(hp:j' w (.cells cs T (0,0)) w'){id:Id}{U':Id→Prop}(hid:¬U id)(hU:∀i,U i→U' i)(hid':U' id)
  {s:Nat}{cells:List D}(hlen:s+cells.length≤cs.size)(hc:∀j,j<cells.length→∃v,cs[s+j]?=some v∧bw w L F U (cells.getD j .junk) v)(box virt:Bool):
  OkW G w' (fj L id ⟨w.heap.size,s,false⟩) (fun b k=>F b k∨(b=w.heap.size∧k<s)) U' (cp H id (some ⟨cells,box,virt⟩))∧
   dH H w L F U (cp H id (some ⟨cells,box,virt⟩)) w' (fj L id ⟨w.heap.size,s,false⟩) (fun b k=>F b k∨(b=w.heap.size∧k<s)) U':=by
 have hLo:∀i,U i→fj L id ⟨w.heap.size,s,false⟩ i=L i:=by grind[fj]
 have hLn:fj L id ⟨w.heap.size,s,false⟩ id=⟨w.heap.size,s,false⟩:=by simp[fj]
 have hst:dH H w L F U (cp H id (some ⟨cells,box,virt⟩)) w' (fj L id ⟨w.heap.size,s,false⟩) (fun b k=>F b k∨(b=w.heap.size∧k<s)) U':=by
  refine⟨hU,hLo,ap,by rw[hp.size];omega,fun b hb _=>hp.old hb,fun b k hb _=>xk (hp.old hb) k,?_,fun b k h=>?_,?_,hp.os,hp.tape,hp.output,hp.drawn⟩
  ·intro b cs' T' fr' hb h;rw[hp.old hb]at h;grind
  ·grind
  ·rintro b k ⟨i,o,h1,h2,rfl,h4⟩;by_cases e:i=id
   ·grind
   ·simp only[cp,az e]at h1;rw[hLo i (hok.live i o h1).1]at h2 h4 ⊢;exact .inr ⟨i,o,h1,h2,rfl,h4⟩
 refine⟨?_,hst⟩;have e:=hst.ext hok;refine⟨fun b k hb=>?_,?_,?_,rH ap e.fk hok.glob⟩
 ·rw[hp.size];rcases hb with hb|⟨rfl,_⟩
  ·have:=hok.fb b k hb;omega
  ·omega
 ·intro i o h1;by_cases ei:i=id
  ·subst ei;simp only[cp,cJ,aL]at h1;subst h1;refine⟨hid',?_⟩;simp only[iT,bK,cd,hLn];refine⟨fun k hk h=>?_,cs,T,hp.new,hlen,fun j hj=>?_⟩
   ·rcases h with h|⟨_,h⟩
    ·have:=hok.fb _ _ h;omega
    ·omega
   obtain⟨v,h1,h2⟩:=hc j hj;exact⟨v,h1,h2.ext e⟩
  ·simp only[cp,az ei]at h1;obtain⟨g1,g2⟩:=hok.live i o h1;refine⟨hU _ g1,g2.ext e g1 fun hv=>⟨hp.old (hok.blk_lt h1 hv),fun k hk h=>?_⟩⟩;grind[iL]
 ·intro i i' o o' h1 h2 hv hv' he;by_cases e1:i=id<;>by_cases e2:i'=id
  ·grind
  ·subst e1;simp only[cp,az e2]at h2;rw[hLo _ (hok.live _ _ h2).1]at hv';rw[hLn,hLo _ (hok.live _ _ h2).1]at he;have:=hok.blk_lt h2 hv';grind
  ·subst e2;simp only[cp,az e1]at h1;rw[hLo _ (hok.live _ _ h1).1]at hv;rw[hLn,hLo _ (hok.live _ _ h1).1]at he;have:=hok.blk_lt h1 hv;grind
  ·simp only[cp,az e1]at h1;simp only[cp,az e2]at h2;rw[hLo _ (hok.live _ _ h1).1]at hv;rw[hLo _ (hok.live _ _ h2).1]at hv';rw[hLo _ (hok.live _ _ h1).1,hLo _ (hok.live _ _ h2).1]at he;exact hok.inj i i' o o' h1 h2 hv hv' he
theorem zHp {F:Nat→Nat→Prop}{n:Nat}:(fun b k=>F b k∨(b=n∧k<0))=F:=ak
theorem vl {G w L F U H}(hok:OkW G w L F U H){w'}{cs:Array Value}{T:TypeId}(hp:j' w (.cells cs T (0,0)) w'){id:Id}{U':Id→Prop}(hid:¬U id)(hU:∀i,U i→U' i)(hid':U' id)
  {cells:List D}(hlen:cells.length≤cs.size)(hc:∀j,j<cells.length→∃v,cs[j]?=some v∧bw w L F U (cells.getD j .junk) v)(box:Bool):
  OkW G w' (fj L id ⟨w.heap.size,0,false⟩) F U' (cp H id (some ⟨cells,box,false⟩))∧
   dH H w L F U (cp H id (some ⟨cells,box,false⟩)) w' (fj L id ⟨w.heap.size,0,false⟩) F U':=by
 have:=De hok hp (s:=0) hid hU hid' (cells:=cells) ae ap box false;grind
theorem NL {G w L F U H}(hok:OkW G w L F U H){w'}{ob:Obj}(hp:j' w ob w'):
  OkW G w' L (fun b k=>F b k∨b=w.heap.size) U H∧dH H w L F U H w' L (fun b k=>F b k∨b=w.heap.size) U:=by
 have hst:dH H w L F U H w' L (fun b k=>F b k∨b=w.heap.size) U:=by
  refine⟨fun _ h=>h,fun _ _=>rfl,ap,by rw[hp.size];omega,fun b hb _=>hp.old hb,fun b k hb _=>xk (hp.old hb) k,?_,?_,ap,hp.os,hp.tape,hp.output,hp.drawn⟩
  ·intro b cs' T' fr' hb h;rw[hp.old hb]at h;grind
  ·grind
 refine⟨?_,hst⟩;have e:=hst.ext hok;refine⟨?_,?_,hok.inj,rH ap e.fk hok.glob⟩
 ·rintro b k (h|h)
  ·have:=hok.fb b k h;rw[hp.size];omega
  ·rw[hp.size];omega
 ·intro i o h1;obtain⟨g1,g2⟩:=hok.live i o h1;refine⟨g1,g2.ext e g1 fun hv=>⟨hp.old (hok.blk_lt h1 hv),?_⟩⟩;grind[iL]
theorem OkW.sub {G w L F U H H'}(hok:OkW G w L F U H)(h:∀i o,H' i=some o→H i=some o):OkW G w L F U H':=
 ⟨hok.fb,fun i o h1=>hok.live i o (h i o h1),fun i i' o o' h1 h2=>hok.inj i i' o o' (h _ _ h1) (h _ _ h2),hok.glob⟩
theorem dH.sub {H w L F U H' w' L' F' U' H''}(s:dH H w L F U H' w' L' F' U')(h:∀i o,H'' i=some o→H' i=some o):dH H w L F U H'' w' L' F' U':=
 {s with bnew:=fun b k ⟨i,o,h1,h2,h3⟩=>s.bnew b k ⟨i,o,h i o h1,h2,h3⟩}
def js (w:World)(b:Nat)(ob:Obj):World:={w with heap:=w.heap.setIfInBounds b ob}
theorem qu {w:World}{b:Nat}{ob:Obj}(h:b<w.heap.size):(js w b ob).heap[b]?=some ob:=by simp[js,h]
theorem yK {w:World}{b c:Nat}{ob:Obj}(h:c≠b):(js w b ob).heap[c]?=w.heap[c]?:=by grind[js]
theorem uR {w:World}{b:Nat}{ob:Obj}:(js w b ob).heap.size=w.heap.size:=by simp[js]
theorem OC {w:World}{b:Nat}{x y:Obj}:js (js w b x) b y=js w b y:=by simp[js]
theorem pe {w:World}{b:Nat}{ob:Obj}(h:w.heap[b]?=some ob):b<w.heap.size:=ap
theorem zx {w:World}{b:Nat}{ob:Obj}(h:w.heap[b]?=some ob):js w b ob=w:=by
 have hl:=pe h;have:w.heap.setIfInBounds b ob=w.heap:=by
  apply fE;intro i;by_cases e:i=b
  ·grind
  ·grind
 simp[js,this]
theorem WQ {w:World}{b k:Nat}{cs:Array Value}{T fr}{v:Value}(h:w.heap[b]?=some (.cells cs T fr)):
  w.setCell ⟨b,k,none⟩ v=js w b (.cells (cs.setIfInBounds k v) T fr):=by
 have hl:=pe h;simp only[World.setCell,js];congr 1;grind
theorem ux {P:Program}{b off:Nat}{T:TypeId}:∀(nv:List Value) (i:Nat) (w:World) (cs:Array Value),w.heap[b]?=some (.cells cs T (0,0))→(∀v∈nv,v.oneCell'=true)→
  off+i+nv.length≤cs.size→
  (storeCells ⟨b,off,none⟩ nv i).run P w= .ok () (js w b (.cells ((nv.zipIdx i).foldl (fun cs (p:Value×Nat)=>cs.setIfInBounds (off+p.2) p.1) cs) T (0,0)))
 |[],i,w,cs,h,_,_=>by simp[storeCells,zx h]
 |v::nv,i,w,cs,h,h1,hl=>by
  simp only[aN]at hl;have hc:w.cell? ⟨b,off+i,none⟩=some cs[off+i]:=by rw[tE h];simp
  have hf:w.frozen? ⟨b,off+i,none⟩=false:=by simp[World.frozen?,h]
  have hlt:=pe h;have hs:=WQ (k:=off+i) (v:=v) h
  have ih:=ux (P:=P) (b:=b) (off:=off) (T:=T) nv (i+1) (js w b (.cells (cs.setIfInBounds (off+i) v) T (0,0))) (cs.setIfInBounds (off+i) v) (qu hlt)
   ap ap
  simp only[storeCells,dG,mQ,run_store P w _ v .plain (h1 v ak),hc,hf,bK,cd,cV,hs,ih,eM,bQ,OC]
def fh:D→Bool
 | .junk| .agg _| .tup _| .fz (.agg _)=>false
 |_=>true
theorem wR {w L F U d v}(h:bw w L F U d v)(h1:fh d=true):v.oneCell'=true:=by
 cases d with
 |junk=>simp[fh]at h1
 |fz x=>simp only[bw]at h;cases h<;>first|rfl|simp[fh]at h1
 |full xs=>simp only[bw]at h;obtain⟨a,rfl,_⟩:=h;rfl
 |rp xs=>simp only[bw]at h;obtain⟨_,_,rfl,_⟩:=h;rfl
 |ow id es xs=>simp only[bw]at h;obtain⟨_,_,_,_,rfl,_⟩:=h;rfl
 |ptr id k=>simp only[bw]at h;obtain⟨_,_,rfl⟩:=h;rfl
 |arr id es s len=>simp only[bw]at h;obtain⟨_,_,_,rfl,_⟩:=h;rfl
 |fn f caps=>simp only[bw]at h;obtain⟨_,rfl,_⟩:=h;rfl
 |agg ds=>simp[fh]at h1
 |tup ds=>simp[fh]at h1
theorem qm (nv:List Value)(i off:Nat)(cs:Array Value):((nv.zipIdx i).foldl (fun cs (p:Value×Nat)=>cs.setIfInBounds (off+p.2) p.1) cs).size=cs.size:=by
 induction nv generalizing i cs with
 |nil=>rfl
 |cons v nv ih=>simp[ih]
theorem pg (nv:List Value):∀(i off:Nat) (cs:Array Value) (j:Nat),off+i+nv.length≤cs.size→
  ((nv.zipIdx i).foldl (fun cs (p:Value×Nat)=>cs.setIfInBounds (off+p.2) p.1) cs)[j]?=
   if off+i≤j∧j<off+i+nv.length then nv[j-(off+i)]? else cs[j]?:=by
 induction nv with
 |nil=>intro i off cs j _;simp;omega
 |cons v nv ih=>intro i off cs j hl;simp only[aN]at hl;simp only[eM,bQ,aN];rw[ih (i+1) off _ j ap];grind
theorem B6 {G w L F U H}(hok:OkW G w L F U H){id:Id}{o:O}(ho:H id=some o)(hv:(L id).3=false){cs cs':Array Value}{T:TypeId}
  (hb:w.heap[(L id).1]?=some (.cells cs T (0,0)))(hsz:cs'.size=cs.size)(hlow:∀k,k<(L id).2→cs'[k]?=cs[k]?){id':Id}{o':O}{L':Loc}{U':Id→Prop}
  (hU:∀i,U i→U' i)(hid':U' id')(hL:∀i,U i→L' i=L i)(hL':(L' id').1=(L id).1)(hL2:(L id).2≤(L' id').2)(hL3:(L' id').3=false)(hnew:id'=id∨¬U id')
  {F':Nat→Nat→Prop}(hF:∀b k,F b k→F' b k)(hF':∀b k,F' b k→F b k∨(b=(L id).1∧(L id).2≤k∧k<(L' id').2))
  (hlen:(L' id').2+o'.cells.length≤cs.size)
  (hc:∀j,j<o'.cells.length→∃v,cs'[(L' id').2+j]?=some v∧bw w L F U (o'.cells.getD j .junk) v):
  OkW G (js w (L id).1 (.cells cs' T (0,0))) L' F' U' (cp (cp H id none) id' (some o'))∧
   dH H w L F U (cp (cp H id none) id' (some o')) (js w (L id).1 (.cells cs' T (0,0))) L' F' U':=by
 have hlt:=pe hb;have hnF:∀k,(L id).2≤k→¬F (L id).1 k:=(iL (hok.live id o ho).2 hv).1;have hold:∀i x,i≠id'→cp (cp H id none) id' (some o') i=some x→i≠id∧H i=some x:=by simp_all[cp]
 have hself:∀x,cp (cp H id none) id' (some o') id'=some x→x=o':=by simp_all[cp]
 have hst:dH H w L F U (cp (cp H id none) id' (some o')) (js w (L id).1 (.cells cs' T (0,0))) L' F' U':=by
  refine⟨hU,hL,hF,by simp_all[uR],fun b hb' hn=>yK (fun e=>hn ⟨id,o,ho,hv,e.symm⟩),fun b k hb' hn=>?_,?_,fun b k h=>?_,?_,rfl,rfl,rfl,aI _⟩
  ·by_cases e:b=(L id).1
   ·subst e;have hk:k<(L id).2:=Nat.lt_of_not_le fun h=>hn ⟨id,o,ho,hv,rfl,h⟩;grind[nA,qu]
   ·exact xk (yK e) k
  ·intro b cs1 T1 fr1 _ h;by_cases e:b=(L id).1
   all_goals simp_all[qu,yK]
  ·rcases hF' b k h with h|⟨rfl,h1,_⟩
   ·grind
   ·exact .inr (.inr ⟨id,o,ho,hv,rfl,h1⟩)
  ·rintro b k ⟨i,x,h1,h2,rfl,h4⟩;by_cases e:i=id'
   ·subst e;rw[hL'];exact .inr ⟨id,o,ho,hv,rfl,ae⟩
   ·obtain⟨_,h3⟩:=hold i x e h1;rw[hL i (hok.live i x h3).1]at h2 h4 ⊢;exact .inr ⟨i,x,h3,h2,rfl,h4⟩
 refine⟨?_,hst⟩;have e:=hst.ext hok;refine⟨fun b k hb'=>?_,?_,?_,rH hF e.fk hok.glob⟩
 ·rw[uR];rcases hF' b k hb' with h|⟨rfl,_⟩
  ·exact hok.fb b k h
  omega
 ·intro i x h1;by_cases ei:i=id'
  ·subst ei;obtain rfl:=hself x h1;refine⟨hid',?_⟩;simp only[iT,hL3,bK,cd,hL'];refine⟨fun k hk h=>?_,cs',T,qu hlt,ae,fun j hj=>?_⟩
   ·grind
   obtain⟨v,h1,h2⟩:=hc j hj;exact⟨v,h1,h2.ext e⟩
  ·obtain⟨hne,h2⟩:=hold i x ei h1;obtain⟨g1,g2⟩:=hok.live i x h2;refine⟨hU _ g1,g2.ext e g1 fun hvx=>⟨yK fun e'=>hne (hok.inj i id x o h2 ho hvx hv e'),fun k hk h=>?_⟩⟩;rcases hF' _ k h with h|⟨h,_⟩
   ·grind[iL]
   ·exact hne (hok.inj i id x o h2 ho hvx hv h)
 ·intro i i' x x' h1 h2 hvx hvx' he;by_cases e1:i=id'<;>by_cases e2:i'=id'
  ·grind
  ·subst e1;obtain⟨hne,h3⟩:=hold i' x' e2 h2;rw[hL _ (hok.live _ _ h3).1]at hvx';rw[hL',hL _ (hok.live _ _ h3).1]at he;exact absurd (hok.inj i' id x' o h3 ho hvx' hv he.symm) hne
  ·subst e2;obtain⟨hne,h3⟩:=hold i x e1 h1;rw[hL _ (hok.live _ _ h3).1]at hvx;rw[hL',hL _ (hok.live _ _ h3).1]at he;exact absurd (hok.inj i id x o h3 ho hvx hv he) hne
  ·obtain⟨_,h3⟩:=hold i x e1 h1;obtain⟨_,h4⟩:=hold i' x' e2 h2;rw[hL _ (hok.live _ _ h3).1]at hvx;rw[hL _ (hok.live _ _ h4).1]at hvx';rw[hL _ (hok.live _ _ h3).1,hL _ (hok.live _ _ h4).1]at he;exact hok.inj i i' x x' h3 h4 hvx hvx' he
theorem wV {G w L F U H}(hok:OkW G w L F U H){id:Id}{o:O}(ho:H id=some o)(hv:(L id).3=false){cs cs':Array Value}{T:TypeId}
  (hb:w.heap[(L id).1]?=some (.cells cs T (0,0)))(hsz:cs'.size=cs.size)(hlow:∀k,k<(L id).2→cs'[k]?=cs[k]?){id':Id}{o':O}{L':Loc}{U':Id→Prop}
  (hU:∀i,U i→U' i)(hid':U' id')(hL:∀i,U i→L' i=L i)(hL':(L' id').1=(L id).1)(hL2:(L id).2≤(L' id').2)(hL3:(L' id').3=false)(hnew:id'=id∨¬U id')
  (hlen:(L' id').2+o'.cells.length≤cs.size)
  (hc:∀j,j<o'.cells.length→∃v,cs'[(L' id').2+j]?=some v∧bw w L F U (o'.cells.getD j .junk) v):
  OkW G (js w (L id).1 (.cells cs' T (0,0))) L' F U' (cp (cp H id none) id' (some o'))∧
   dH H w L F U (cp (cp H id none) id' (some o')) (js w (L id).1 (.cells cs' T (0,0))) L' F U':=
 B6 hok ho hv hb hsz hlow hU hid' hL hL' hL2 hL3 hnew (fun _ _ h=>h) ap hlen hc
theorem X8 (new:List D):∀(i off:Nat) (ds:List D) (j:Nat),off+i+new.length≤ds.length→
  ((new.zipIdx i).foldl (fun cs p=>cs.set (off+p.2) p.1) ds).getD j .junk=if off+i≤j∧j<off+i+new.length then new.getD (j-(off+i)) .junk else ds.getD j .junk:=by
 induction new with
 |nil=>intro i off ds j _;simp;omega
 |cons v nv ih=>intro i off ds j hl;simp only[aN]at hl;simp only[eM,bQ,aN];rw[ih (i+1) off _ j ap];grind
theorem ZH {P:Program}{G w L F U H}(hok:OkW G w L F U H){id:Id}{o:O}(ho:H id=some o)(hv:o.virt=false){t:TypeId}{ti:TI}(hti:cN P t=some ti){k:Nat}{d:D}{v:Value}
  (hd:bw w L F U d v)(hk:d.known=true)(hone:d.cs.all fh=true)(hsz:d.cs.length=ti.size)(hlen:k+ti.size≤o.cells.length):
  ∃w',(Instr.storeAt t (.pointer (some ⟨(L id).1,(L id).2+k,none⟩)) v).run P w= .ok () w'∧
   OkW G w' L F U (cp H id (some {o with cells:=mh o.cells k d.cs}))∧dH H w L F U (cp H id (some {o with cells:=mh o.cells k d.cs})) w' L F U:=by
 obtain⟨_,cs,T,hb,hfit,hcell⟩:=H8 (hok.live id o ho).2 hv;have hcs:=bw.cs hd (zh hk);obtain⟨hvl,hvr⟩:=(cA.iff _ _).1 hcs;have hone':∀u∈v.cells.toList,u.oneCell'=true:=by intro u hu;obtain⟨j,hj,rfl⟩:=bI hu;have h1:=hvr j ae;rw[cB]at hone;have h2:fh (d.cs.getD j .junk)=true:=hone _ (by rw[av,ay ae];exact aT _);have h3:=wR h1 h2;simpa[av,ay hj]using h3
 have hvs:v.cells.size=ti.size:=by rw[←cG,hvl,hsz]
 have hrun:=ux (P:=P) (b:=(L id).1) (off:=(L id).2+k) (T:=T) v.cells.toList 0 w cs hb hone' ao;have hupd:cp (cp H id none) id (some {o with cells:=mh o.cells k d.cs})=cp H id (some {o with cells:=mh o.cells k d.cs}):=by funext j;simp only[cp];split<;>rfl
 have hv3:=(hok.live id o ho).2.real hv
 have key:=wV hok ho hv3 hb (qm v.cells.toList 0 ((L id).2+k) cs) (fun q hq=>by rw[pg _ _ _ _ _ ao,az ae]) (id':=id) (o':={o with cells:=mh o.cells k d.cs}) (L':=L) (U':=U) (fun _ h=>h) (hok.live id o ho).1 (fun _ _=>rfl) rfl (aI _) hv3 (.inl rfl)
  (by simp only[KR];exact hfit) (fun j hj=>by
   simp only[KR]at hj;rw[pg _ _ _ _ _ ao];unfold mh;rw[X8 _ _ _ _ _ ae];by_cases hin:k≤j∧j<k+d.cs.length
   ·rw[aF ae,aF ao];have e1:(L id).2+j-((L id).2+k+0)=j-(k+0):=ae
    have hjlt:j-(k+0)<v.cells.toList.length:=ae
    refine⟨_,by rw[e1,ay hjlt],?_⟩;have:=hvr (j-(k+0)) ae;rw[av (l:=v.cells.toList),ay hjlt]at this;simpa using this
   ·rw[az ae,az ao];exact hcell j hj)
 rw[hupd]at key;refine⟨_,?_,key⟩;simp only[Instr.storeAt,Instr.sureAddr,storeVar,dG,gn,cV,oK hti,hvs,ne_eq,not_true_eq_false,cd,lR,hrun]
theorem H6 (need:Nat):∀(r c:Nat),c<need→Builtin.growBy need r c≤need+need / 4+512
 |0,c,h=>by grind[Builtin.growBy]
 |r+1,c,h=>by
  simp only[Builtin.growBy];rw[az ae];by_cases h2:c+(c+768) / 4<need
  ·exact H6 need r _ h2
  ·cases r with
   |zero=>grind[Builtin.growBy]
   |succ r=>grind[Builtin.growBy]
theorem VK {need old:Nat}(h:old<need):Builtin.nextslicecap need old≤need+need / 4+512:=by grind[Builtin.nextslicecap,H6]
def fits (n bytes:Nat):Prop:=n≤dt∧(n+n / 4+512)*bytes≤281474976710656
theorem JX {n bytes old:Nat}(h:fits n bytes)(ho:old<n):Builtin.nextslicecap n old*bytes≤281474976710656:=
 bz (bW _ (VK ho)) h.2
theorem wE (w:World)(need old:Nat)(e:TypeId):need≤grownCap w need old e:=by simp_all[grownCap,Question.cut]
section
variable {P:Program} {w:World} {t u ty e e':TypeId} {i:TypeInfo} {z:Value}
theorem s5 (ht:P.underlying t=some (.slice e))(hu:P.underlying u=some (.slice e'))(hi:P.info? e=some i)
  {base:Option Addr}{sLen sCap:Nat}{xb:Option Addr}{n xc:Nat}{news:Array Value}
  (hnew:(Builtin.firstCells i.size n (.slice xb n xc)).run P w= .ok news w)(hg:sLen+n≤sCap){w':World}
  (hst:∀a,base=some a→(storeCells (a.add (sLen*i.size)) news.toList).run P w= .ok () w')(hb0:base=none→w'=w):
  (Builtin.append_ #[t,u] ty #[.slice base sLen sCap,.slice xb n xc]).run P w= .ok (.slice base (sLen+n) sCap) w':=by
 cases base with
 |none=>obtain rfl:=hb0 rfl;simp[Builtin.append_,bc ht,bc hu,sizeOf,typeInfo,hi,Builtin.lenOf,hg,hnew]
 |some a=>simp[Builtin.append_,bc ht,bc hu,sizeOf,typeInfo,hi,Builtin.lenOf,hg,hnew,hst a rfl]
theorem Bv (ht:P.underlying t=some (.slice e))(hu:P.underlying u=some (.slice e'))(hi:P.info? e=some i)(hz:i.zero=some z)
  {base:Option Addr}{sLen sCap:Nat}{xb:Option Addr}{n xc:Nat}{olds news:Array Value}
  (hold:(Builtin.firstCells i.size sLen (.slice base sLen sCap)).run P w.drew= .ok olds w.drew)
  (hnew:(Builtin.firstCells i.size n (.slice xb n xc)).run P w.drew= .ok news w.drew)(hg:sCap<sLen+n)(hf:fits (sLen+n) i.bytes):
  (Builtin.append_ #[t,u] ty #[.slice base sLen sCap,.slice xb n xc]).run P w= .ok (.slice (some ⟨w.heap.size,0,none⟩) (sLen+n) (grownCap w (sLen+n) sCap e))
   (w.drew.alloc (.cells (olds++news++Builtin.zeroCells z.cells (grownCap w (sLen+n) sCap e-(sLen+n))) e)):=by
 have hn:¬(sLen+n≤sCap):=ae
 have h63':¬(9223372036854775807<((sLen:Int)+(n:Int))):=by have:=hf.1;unfold dt at this;omega
 have h48':¬(281474976710656<Builtin.nextslicecap (sLen+n) sCap*i.bytes):=by have:=JX hf hg;omega
 simp[Builtin.append_,bc ht,bc hu,sizeOf,typeInfo,zeroValue,hi,hz,Builtin.lenOf,hn,h63',h48',Question.forced,hold,hnew,newRow,grownCap]
theorem VJ {size n:Nat}{b o:Nat}{len cap:Nat}(f:Nat→Value)(h:∀j,j<n*size→w.cell? ⟨b,o+j,none⟩=some (f j)):
  (Builtin.firstCells size n (.slice (some ⟨b,o,none⟩) len cap)).run P w= .ok ((List.range (n*size)).map f).toArray w:=by
 simp_all[Builtin.firstCells,run_loadCells,mQ]
theorem wy {size:Nat}{a:Option Addr}{len cap:Nat}:
  (Builtin.firstCells size 0 (.slice a len cap)).run P w= .ok #[] w:=by
 cases a with
 |none=>rfl
 |some a=>simp[Builtin.firstCells,loadCells,loadCellsFrom]
end
def bA (xs:List FD):List D:=xs.flatMap fun x=>x.cells.map .fz
theorem mw {xs:List FD}{es:Nat}(h:∀i,i<xs.length→(xs.getD i .nilf).cells.length=es):(bA xs).length=xs.length*es:=by
 induction xs with
 |nil=>simp[bA]
 |cons x xs ih=>
  have h0:=h 0 ak;have ih':=ih fun i hi=>by have:=h (i+1) ap;grind
  grind[bA]
theorem uG {xs:List FD}{es:Nat}(h:∀i,i<xs.length→(xs.getD i .nilf).cells.length=es):∀{i j:Nat},i<xs.length→j<es→
  (bA xs).getD (i*es+j) .junk= .fz ((xs.getD i .nilf).cells.getD j .nilf):=by
 induction xs with
 |nil=>simp
 |cons x xs ih=>
  intro i j hi hj;have h0:=h 0 ak;have h':∀i,i<xs.length→(xs.getD i .nilf).cells.length=es:=fun i hi=>by have:=h (i+1) ap;grind
  simp only[dr]at h0;have hfl:bA (x::xs)=x.cells.map .fz++bA xs:=by simp[bA]
  rw[hfl];cases i with
  |zero=>grind
  |succ i=>grind
def dP (xs:List FD)(es:Nat):Prop:=∀x∈xs,x.cells.length=es
theorem jJ {xs:List FD}{es:Nat}(h:dP xs es):∀i,i<xs.length→(xs.getD i .nilf).cells.length=es:=fun i hi=>by rw[av,ay hi];exact h _ ap
def nN (H:bR)(te:TI)(y:D):Option (Nat×List D×Prop):=
 match y with
 | .fz (.sl ys)=>some (ys.length,bA ys,dP ys te.size)
 | .full ys=>some (ys.length,bA ys,dP ys te.size)
 | .ow _ _ ys=>some (ys.length,bA ys,dP ys te.size)
 | .arr id es s len=>
  match H id with
  |some o=>some (len,(o.cells.drop s).take (len*te.size),es=te.size∧s+len*te.size≤o.cells.length)
  |none=>none
 |_=>none
def Src (w:World)(L:Loc)(F:Nat→Nat→Prop)(U:Id→Prop)(es:Nat)(v:Value)(n:Nat)(cells:List D):Prop:=
 ∃a cap,v= .slice a n cap∧n≤cap∧n≤dt∧cells.length=n*es∧
  (0<n→∃b o,a=some ⟨b,o,none⟩∧∀j,j<cells.length→∃u,w.cell? ⟨b,o+j,none⟩=some u∧bw w L F U (cells.getD j .junk) u)
theorem sD {w L F U}{ys:List FD}{v:Value}{es:Nat}(h:dD w F v (.sl ys))(hl:dP ys es):Src w L F U es v ys.length (bA ys):=by
 obtain⟨a,cap,rfl,h1,h2,h3⟩:=h.sl_inv;have hl':=jJ hl;refine⟨a,cap,rfl,h1,h2,mw hl',fun hn=>?_⟩;obtain⟨b,off,es',vs,rfl,hF,hes,hcs,hrep⟩:=h3 hn;have:es'=es:=by rw[←hes 0 hn,hl' 0 hn]
 subst this;refine⟨b,off,rfl,fun j hj=>?_⟩;rw[mw hl']at hj;have hpos:0<es':=by
  rcases cj es' with h|h
  ·grind
  ·exact h
 have hi:j / es'<ys.length:=by rw[Nat.div_lt_iff_lt_mul hpos];exact hj
 have hm:j % es'<es':=ez _ hpos;have hj':j / es'*es'+j % es'=j:=by rw[df];exact du j es'
 refine⟨vs (j / es') (j % es'),?_,?_⟩
 ·have:=hcs _ _ hi hm;rw[cz,hj']at this;exact this
 grind[uG,bw]
theorem Hx {ds:List D}{s k j:Nat}(h:j<k):((ds.drop s).take k).getD j .junk=ds.getD (s+j) .junk:=ap
theorem Dv {G w L F U H}(hok:OkW G w L F U H){id:Id}{es s len:Nat}{v:Value}(h:bw w L F U (.arr id es s len) v){o:O}(ho:H id=some o)(hl:s+len*es≤o.cells.length):
  Src w L F U es v len ((o.cells.drop s).take (len*es)):=by
 simp only[bw]at h;obtain⟨hU,a,cap,rfl,h1,h2,h3⟩:=h;refine⟨a,cap,rfl,h1,h2,ap,fun hn=>?_⟩;rcases h3 with h3|⟨rfl,hv,hL,hcap⟩
 ·omega
 refine⟨_,_,rfl,fun j hj=>?_⟩;have hj':j<len*es:=by simp at hj;omega
 obtain⟨_,cs,T,hb,_,hcell⟩:=iL (hok.live id o ho).2 hv;grind[tE]
theorem Ab {G w L F U H}(hok:OkW G w L F U H){te:TI}{y:D}{v:Value}{n cells c}(h:nN H te y=some (n,cells,c))(hc:c)(hy:bw w L F U y v):Src w L F U te.size v n cells:=by unfold nN at h;grind[bw,sD,Dv]
theorem Src.run {P:Program}{w L F U es v n cells}(h:Src w L F U es v n cells){w':World}(hw:w'.heap=w.heap):
  ∃f:Nat→Value,(Builtin.firstCells es n v).run P w'= .ok ((List.range (n*es)).map f).toArray w'∧∀j,j<n*es→bw w L F U (cells.getD j .junk) (f j):=by
 obtain⟨a,cap,rfl,h1,h2,h3,h4⟩:=h;rcases cj n with rfl|hn
 ·simp_all[wy]
 ·obtain⟨b,o,rfl,hc⟩:=h4 hn;obtain⟨f,hf⟩:=yu hc;rw[h3]at hf;refine⟨f,VJ f (fun j hj=>?_),ap⟩;grind[World.cell?]
theorem OM (H:bR)(id:Id)(o):cp H id o id=o:=by simp[cp]
theorem Sd (H:bR){id j:Id}(o)(h:j≠id):cp H id o j=H j:=by simp[cp,h]
theorem tw {G w L F U H}(hok:OkW G w L F U H){id:Id}{U':Id→Prop}(hid:¬U id)(hU:∀i,U i→U' i)(hid':U' id)(box:Bool):
  OkW G w (fj L id ⟨0,0,true⟩) F U' (cp H id (some ⟨[],box,true⟩))∧dH H w L F U (cp H id (some ⟨[],box,true⟩)) w (fj L id ⟨0,0,true⟩) F U':=by
 have hLo:∀i,U i→fj L id ⟨0,0,true⟩ i=L i:=by grind[fj]
 have hold:∀i o,cp H id (some ⟨[],box,true⟩) i=some o→(fj L id ⟨0,0,true⟩ i).3=false→H i=some o:=by grind[cp,fj]
 have hst:dH H w L F U (cp H id (some ⟨[],box,true⟩)) w (fj L id ⟨0,0,true⟩) F U':=by refine⟨hU,hLo,fun _ _ h=>h,aI _,fun _ _ _=>rfl,fun _ _ _ _=>rfl,ap,ap,?_,rfl,rfl,rfl,aI _⟩;rintro b k ⟨i,o,h1,h2,rfl,h4⟩;have h3:=hold i o h1 h2;rw[hLo i (hok.live i o h3).1]at h2 h4 ⊢;exact .inr ⟨i,o,h3,h2,rfl,h4⟩
 refine⟨?_,hst⟩;have e:=hst.ext hok;refine⟨hok.fb,?_,?_,hok.glob⟩
 ·intro i o h1;by_cases ei:i=id
  ·grind[OM,iT,fj]
  ·rw[Sd _ _ ei]at h1;obtain⟨g1,g2⟩:=hok.live i o h1;exact⟨hU _ g1,g2.ext e g1 (by grind[iL])⟩
 ·intro i i' o o' h1 h2 hv hv' he;have h3:=hold i o h1 hv;have h4:=hold i' o' h2 hv';rw[hLo i (hok.live i o h3).1]at hv;rw[hLo i' (hok.live i' o' h4).1]at hv';rw[hLo i (hok.live i o h3).1,hLo i' (hok.live i' o' h4).1]at he;exact hok.inj i i' o o' h3 h4 hv hv' he
theorem qk {l1 l2:List D}{j:Nat}(h:j<l1.length):(l1++l2).getD j .junk=l1.getD j .junk:=ap
theorem ql {l1 l2:List D}{j:Nat}(h:l1.length≤j):(l1++l2).getD j .junk=l2.getD (j-l1.length) .junk:=ap
section
variable {P:Program} {G:Nat→List FD} {w:World} {L:Loc} {F:Nat→Nat→Prop} {U:Id→Prop} {H:bR}
theorem JF (hok:OkW G w L F U H){t u ty e e':TypeId}{te:TI}(ht:P.underlying t=some (.slice e))(hu:P.underlying u=some (.slice e'))(hte:cN P e=some te)
  {base:Option Addr}{len cap:Nat}{vy:Value}{n:Nat}{c1 c2:List D}(h1:Src w L F U te.size (.slice base len cap) len c1)(h2:Src w L F U te.size vy n c2)
  (hg:cap<len+n)(hf:fits (len+n) te.bytes){H':bR}(hH:∀i o,H' i=some o→H i=some o){id:Id}{U':Id→Prop}(hid:¬U id)(hU:∀i,U i→U' i)(hid':U' id):
  ∃v w' L',(Builtin.append_ #[t,u] ty #[.slice base len cap,vy]).run P w= .ok v w'∧OkW G w' L' F U' (cp H' id (some ⟨c1++c2,false,false⟩))∧
   bw w' L' F U' (.arr id te.size 0 (len+n)) v∧dH H w L F U (cp H' id (some ⟨c1++c2,false,false⟩)) w' L' F U':=by
 obtain⟨i,z,d,g1,g2,g3,rfl⟩:=jg hte;have hz:=rz hte;dsimp only at h1 h2 hf ⊢;simp only[aG,cG]at hz;obtain⟨f1,r1,v1⟩:=h1.run (P:=P) (w':=w.drew) rfl;obtain⟨f2,r2,v2⟩:=h2.run (P:=P) (w':=w.drew) rfl;obtain⟨a',cap',he,_,_,l1,_⟩:=h1;obtain⟨ya,yc,rfl,_,_,l2,_⟩:=h2;have hrun:=Bv (P:=P) (w:=w) (ty:=ty) ht hu g1 g2 r1 r2 hg hf;have hge:=wE w (len+n) cap e;generalize grownCap w (len+n) cap e=gc at hrun hge;have hp:=j'.drewAlloc w (.cells (((List.range (len*i.size)).map f1).toArray++((List.range (n*i.size)).map f2).toArray++Builtin.zeroCells z.cells (gc-(len+n))) e);have hsub:=hok.sub hH;obtain⟨k1,k2⟩:=vl hsub hp (cells:=c1++c2) hid hU hid' ap (fun j hj=>by grind[Array.getElem?_append_right]) false;refine⟨_,_,_,hrun,k1,?_,((dH.refl H w L F U).sub hH).trans k2⟩;simp only[bw];refine⟨hid',_,_,rfl,ae,hf.1,.inr ⟨qQr,qQr,qQr,fun cs T fr hcs=>?_⟩⟩;have hL:fj L id ⟨w.heap.size,0,false⟩ id=⟨w.heap.size,0,false⟩:=by simp[fj]
 rw[hL]at hcs ⊢;rw[hp.new]at hcs;simp only[aL,eA]at hcs;obtain⟨rfl,_,_⟩:=hcs;have e1:gc*i.size=len*i.size+n*i.size+(gc-(len+n))*i.size:=by rw[←ci,←ci];congr 1;omega
 simp_all[Builtin.zeroCells]
theorem WN (hok:OkW G w L F U H){t u ty e e':TypeId}{te:TI}(ht:P.underlying t=some (.slice e))(hu:P.underlying u=some (.slice e'))(hte:cN P e=some te)
  {xs:List FD}{vx vy:Value}{n:Nat}{c2:List D}(hx:bw w L F U (.full xs) vx)(h2:Src w L F U te.size vy n c2)(hl:dP xs te.size)(hs:0<te.size)
  (hn:0<n∨xs=[])(hf:fits (xs.length+n) te.bytes){id:Id}{U':Id→Prop}(hid:¬U id)(hU:∀i,U i→U' i)(hid':U' id):
  ∃v w' L',(Builtin.append_ #[t,u] ty #[vx,vy]).run P w= .ok v w'∧OkW G w' L' F U' (cp H id (some ⟨bA xs++c2,false,(bA xs++c2).isEmpty⟩))∧
   bw w' L' F U' (.arr id te.size 0 (xs.length+n)) v∧dH H w L F U (cp H id (some ⟨bA xs++c2,false,(bA xs++c2).isEmpty⟩)) w' L' F U':=by
 simp only[bw]at hx;obtain⟨a,rfl,hx⟩:=hx;have h1:=sD (L:=L) (U:=U) hx hl;obtain⟨ya,yc,rfl,_,_,l2,_⟩:=_root_.id h2;rcases cj n with rfl|hpos
 ·obtain rfl:xs=[]:=ap
  have hc2:c2=[]:=ap
  subst hc2;obtain⟨i,z,d,g1,g2,g3,rfl⟩:=jg hte;obtain⟨k1,k2⟩:=tw hok hid hU hid' false;refine⟨.slice a 0 0,w,fj L id ⟨0,0,true⟩,?_,k1,?_,k2⟩
  ·simp_all[s5,wy,storeCells]
  grind[bw]
 ·have he:(bA xs++c2).isEmpty=false:=by
   have:0<c2.length:=by rw[l2];exact Nat.mul_pos hpos hs
   cases c2 with
   |nil=>grind
   |cons=>simp
  rw[he];exact JF hok ht hu hte h1 h2 ae hf (fun _ _ h=>h) hid hU hid'
theorem XT (hok:OkW G w L F U H){t u ty e e':TypeId}{te:TI}(ht:P.underlying t=some (.slice e))(hu:P.underlying u=some (.slice e'))(hte:cN P e=some te)
  {aid:Id}{s len:Nat}{vx vy:Value}{n:Nat}{c2:List D}(hx:bw w L F U (.arr aid te.size s len) vx){o:O}(ho:H aid=some o)(hb:s+len*te.size≤o.cells.length)
  (h2:Src w L F U te.size vy n c2)(hone:c2.all fh=true)(hs:0<te.size)(hf:fits (len+n) te.bytes){id:Id}{U':Id→Prop}(hid:¬U id)(hU:∀i,U i→U' i)(hid':U' id):
  ∃v w' L',(Builtin.append_ #[t,u] ty #[vx,vy]).run P w= .ok v w'∧
   OkW G w' L' F U' (cp (cp H aid none) id (some ⟨(o.cells.drop s).take (len*te.size)++c2,false,o.virt&&((o.cells.drop s).take (len*te.size)++c2).isEmpty⟩))∧
   bw w' L' F U' (.arr id te.size 0 (len+n)) v∧
   dH H w L F U (cp (cp H aid none) id (some ⟨(o.cells.drop s).take (len*te.size)++c2,false,o.virt&&((o.cells.drop s).take (len*te.size)++c2).isEmpty⟩)) w' L' F U':=by
 have h1:=Dv hok hx ho hb;have hx':=hx;simp only[bw]at hx';obtain⟨hUa,a,cap,rfl,q1,q2,q3⟩:=hx';obtain⟨ya,yc,rfl,_,_,l2,_⟩:=_root_.id h2;have hsub:∀i x,cp H aid none i=some x→H i=some x:=fun i x h=>by
  simp only[cp]at h;split at h
  ·cases h
  ·exact h
 have hne:id≠aid:=by rintro rfl;exact hid hUa
 have hlen1:((o.cells.drop s).take (len*te.size)).length=len*te.size:=ao
 rcases aA cap (len+n)with hg|hg
 ·have he:(o.virt&&((o.cells.drop s).take (len*te.size)++c2).isEmpty)=false:=by
   have:0<c2.length:=by rw[l2];exact Nat.mul_pos ae hs
   cases c2 with
   |nil=>simp at this
   |cons=>simp
  rw[he];exact JF hok ht hu hte h1 h2 hg hf hsub hid hU hid'
 ·obtain⟨i,z,d,g1,g2,g3,rfl⟩:=jg hte;dsimp only at*;obtain⟨f2,r2,v2⟩:=h2.run (P:=P) (w':=w) rfl;cases hv:(L aid).3
  ·
   obtain⟨_,cs,T,hblk,hfit,hcell⟩:=iL (hok.live aid o ho).2 hv;have hL':fj L id ⟨(L aid).1,(L aid).2+s,false⟩ id=⟨(L aid).1,(L aid).2+s,false⟩:=by simp[fj]
   have hLo:∀j,U j→fj L id ⟨(L aid).1,(L aid).2+s,false⟩ j=L j:=fun j hj=>by unfold fj;rw[az (by rintro rfl;exact hid hj)]
   have hcapn:n=0∨(a=some ⟨(L aid).1,(L aid).2+s,none⟩∧(L aid).2+s+cap*i.size≤cs.size):=by
    rcases q3 with q3|⟨q3,_,_,q4⟩
    ·exact .inl ae
    ·exact .inr ⟨q3,q4 _ _ _ hblk⟩
   have hroom:(L aid).2+s+len*i.size+n*i.size≤cs.size:=by
    rcases hcapn with rfl|⟨_,h⟩
    ·simp;omega
    ·have:(len+n)*i.size≤cap*i.size:=bW _ hg;rw[ci]at this;omega
   have hnl:((List.range (n*i.size)).map f2).length=n*i.size:=ak
   have hone':∀u∈(List.range (n*i.size)).map f2,u.oneCell'=true:=by
    intro u hu';obtain⟨j,hj,rfl⟩:=be.1 hu';have hj':j<n*i.size:=by simpa using hj
    rw[cB]at hone;refine wR (v2 j hj') (hone _ ?_);rw[av,ay ae];exact aT _
   have hrun:=ux (P:=P) (b:=(L aid).1) (off:=(L aid).2+s+len*i.size) (T:=T) ((List.range (n*i.size)).map f2) 0 w cs hblk hone' (by rw[hnl];omega)
   have key:=wV hok ho hv hblk (qm ((List.range (n*i.size)).map f2) 0 ((L aid).2+s+len*i.size) cs) (fun q hq=>by rw[pg _ _ _ _ _ (by rw[hnl];omega),az ae]) (id':=id)
    (o':=⟨(o.cells.drop s).take (len*i.size)++c2,false,o.virt&&((o.cells.drop s).take (len*i.size)++c2).isEmpty⟩) (L':=fj L id ⟨(L aid).1,(L aid).2+s,false⟩) (U':=U') hU hid' hLo qWe (by rw[hL'];simp) qWe (.inr hid)
    (by rw[hL'];simp only[aD,hlen1,l2];omega) (fun j hj=>by
     simp only[aD,hlen1,l2]at hj;rw[hL',pg _ _ _ _ _ (by rw[hnl];omega),hnl];dsimp only;by_cases hj1:j<len*i.size
     ·rw[az ae,qk ae,Hx hj1,cz];exact hcell (s+j) ae
     ·have hj2:j-len*i.size<n*i.size:=ae
      have e2:(L aid).2+s+j-((L aid).2+s+len*i.size+0)=j-len*i.size:=ae
      rw[aF ae,ql ae,hlen1,e2];exact⟨f2 (j-len*i.size),by simp[hj2],v2 _ hj2⟩)
   refine⟨.slice a (len+n) cap,_,_,?_,by simpa using key.1,?_,by simpa using key.2⟩
   ·refine s5 (P:=P) (w:=w) (ty:=ty) ht hu g1 r2 hg (fun x hx=>?_) (fun hn=>?_)
    ·rcases hcapn with rfl|⟨h,_⟩
     ·simp[storeCells,zx hblk]
     ·rw[h]at hx;obtain rfl:=(bq hx).symm;rw[mQ];simpa using hrun
    ·rcases hcapn with rfl|⟨h,_⟩
     ·simp[zx hblk]
     ·rw[h]at hn;cases hn
   ·simp only[bw];refine⟨hid',a,cap,rfl,hg,hf.1,?_⟩;rcases q3 with q3|⟨q3,_,q5,q4⟩
    ·exact .inl q3
    ·refine .inr ⟨by rw[hL',q3];simp,qWe,by rw[hL',uR];exact q5,fun cs1 T1 fr1 h=>?_⟩;rw[hL']at h ⊢;rw[qu (pe hblk)]at h;simp only[aL,eA]at h;obtain⟨rfl,_,_⟩:=h;rw[qm];have:=q4 _ _ _ hblk;simpa using this
  ·
   have hor:=(hok.live aid o ho).2;simp only[iT,hv,cJ]at hor;obtain⟨hor1,hor2⟩:=hor;have hcap:cap=0:=by
    rcases q3 with q3|⟨_,q3,_⟩
    ·exact q3
    ·rw[hv]at q3;cases q3
   subst hcap;obtain rfl:len=0:=ae
   obtain rfl:n=0:=ae
   have hc2:c2=[]:=jd.1 (by simpa using l2);subst hc2;obtain⟨k1,k2⟩:=tw (hok.sub hsub) hid hU hid' false;refine⟨.slice a 0 0,w,fj L id ⟨0,0,true⟩,?_,by simpa[hor2]using k1,?_,by simpa[hor2]using((dH.refl H w L F U).sub hsub).trans k2⟩
   ·have:=s5 (P:=P) (w:=w) (ty:=ty) (w':=w) ht hu g1 (base:=a) (sLen:=0) (sCap:=0) (xb:=ya) (n:=0) (xc:=yc) (news:= #[]) wy ae (fun a _=>by simp[storeCells]) (fun _=>rfl);simpa using this
   ·simp only[bw];exact⟨hid',a,0,rfl,ak,by simp[dt],.inl rfl⟩
theorem yY {xs:List FD}{es b off cap:Nat}(hl:dP xs es)(h1:xs.length≤cap)(h2:xs.length≤dt)(hF:∀k,k<xs.length*es→F b (off+k))
  (hc:∀k,k<xs.length*es→∃u,World.at w b (off+k)=some u∧bw w L F U ((bA xs).getD k .junk) u):dD w F (.slice (some ⟨b,off,none⟩) xs.length cap) (.sl xs):=by
 refine dD.sl_mk h1 h2 fun _=>?_;obtain⟨f,hf⟩:=yu hc;refine⟨b,off,es,fun i j=>f (i*es+j),rfl,hF,jJ hl,fun i j hi hj=>?_,fun i j hi hj=>?_⟩
 all_goals grind[vJ,uG,jJ,bw]
theorem bw.mono_ow {w w':World}{L L':Loc}{F F':Nat→Nat→Prop}{U U':Id→Prop}{x:FD}{v:Value}(h:bw w L F U (.fz x) v)(hk:∀b k,F b k→World.at w' b k=World.at w b k)(hF:∀b k,F b k→F' b k):bw w' L' F' U' (.fz x) v:=by simp only[bw]at h ⊢;exact h.mono hk hF
theorem sC {xs:List FD}{k:Nat}(hk:k<(bA xs).length):∃x,(bA xs).getD k .junk= .fz x:=by
 have:(bA xs).getD k .junk∈bA xs:=by rw[av,ay hk];exact ap
 grind[bA]
def tok:O:=⟨[],false,true⟩
theorem HV (hok:OkW G w L F U H){t u ty e e':TypeId}{te:TI}(ht:P.underlying t=some (.slice e))(hu:P.underlying u=some (.slice e'))(hte:cN P e=some te)
  {base:Option Addr}{cap:Nat}{vy:Value}{xs ys:List FD}(hx:dD w F (.slice base xs.length cap) (.sl xs))(h2:Src w L F U te.size vy ys.length (bA ys))(hlx:dP xs te.size)(hly:dP ys te.size)
  (hg:cap<xs.length+ys.length)(hf:fits (xs.length+ys.length) te.bytes){H':bR}(hH:∀i o,H' i=some o→H i=some o){id:Id}{U':Id→Prop}(hid:¬U id)(hU:∀i,U i→U' i)(hid':U' id):
  ∃v w' L' F',(Builtin.append_ #[t,u] ty #[.slice base xs.length cap,vy]).run P w= .ok v w'∧OkW G w' L' F' U' (cp H' id (some tok))∧
   bw w' L' F' U' (.ow id te.size (xs++ys)) v∧dH H w L F U (cp H' id (some tok)) w' L' F' U':=by
 have h1:=sD (L:=L) (U:=U) hx hlx;obtain⟨i,z,d,g1,g2,g3,rfl⟩:=jg hte;have hz:=rz hte;dsimp only at*;simp only[aG,cG]at hz;obtain⟨f1,r1,v1⟩:=h1.run (P:=P) (w':=w.drew) rfl;obtain⟨f2,r2,v2⟩:=h2.run (P:=P) (w':=w.drew) rfl;obtain⟨ya,yc,rfl,_,_,l2,_⟩:=h2;have hrun:=Bv (P:=P) (w:=w) (ty:=ty) ht hu g1 g2 r1 r2 hg hf;have hge:=wE w (xs.length+ys.length) cap e;generalize grownCap w (xs.length+ys.length) cap e=gc at hrun hge;have hp:=j'.drewAlloc w (.cells (((List.range (xs.length*i.size)).map f1).toArray++((List.range (ys.length*i.size)).map f2).toArray++Builtin.zeroCells z.cells (gc-(xs.length+ys.length))) e);have hsub:=hok.sub hH;have hsz:((((List.range (xs.length*i.size)).map f1).toArray++((List.range (ys.length*i.size)).map f2).toArray++Builtin.zeroCells z.cells (gc-(xs.length+ys.length)))).size=xs.length*i.size+ys.length*i.size+(gc-(xs.length+ys.length))*i.size:=by simp[Builtin.zeroCells,hz]
 have hmul:(xs.length+ys.length)*i.size=xs.length*i.size+ys.length*i.size:=ci _ _ _;obtain⟨k1,k2⟩:=De hsub hp (s:=(xs.length+ys.length)*i.size) (cells:=[]) hid hU hid' ap ap false true;refine⟨_,_,_,_,hrun,k1,?_,((dH.refl H w L F U).sub hH).trans k2⟩;have hlall:dP (xs++ys) i.size:=fun x hx=>by
  rcases aO.1 hx with h|h
  ·exact hlx x h
  ·exact hly x h
 have hfl:bA (xs++ys)=bA xs++bA ys:=by simp[bA]
 have hll:=mw (jJ hlx);have hll2:=mw (jJ hly);have ex:=k2.ext hsub;have key:dD (w.drew.alloc (.cells (((List.range (xs.length*i.size)).map f1).toArray++((List.range (ys.length*i.size)).map f2).toArray++Builtin.zeroCells z.cells (gc-(xs.length+ys.length))) e)) (fun b k=>F b k∨(b=w.heap.size∧k<(xs.length+ys.length)*i.size)) (.slice (some ⟨w.heap.size,0,none⟩) (xs++ys).length gc) (.sl (xs++ys)):=by
  refine yY (L:=L) (U:=U) hlall ap (by rw[aD];exact hf.1) (fun k hk=>?_) (fun k hk=>?_)
  ·grind
  ·rw[aD,hmul]at hk;rw[nA hp.new,bE,hfl];by_cases hj1:k<xs.length*i.size
   ·refine⟨f1 k,?_,?_⟩
    ·grind
    ·have h3:=v1 k hj1;rw[qk ae];obtain⟨x,hx⟩:=sC (xs:=xs) (k:=k) ae;rw[hx]at h3 ⊢;exact h3.mono_ow ex.fk ex.f
   ·have hj2:k-xs.length*i.size<ys.length*i.size:=ae
    refine⟨f2 (k-xs.length*i.size),?_,?_⟩
    ·grind
    ·have h3:=v2 _ hj2;rw[ql ae,hll];obtain⟨x,hx⟩:=sC (xs:=ys) (k:=k-xs.length*i.size) ae;rw[hx]at h3 ⊢;exact h3.mono_ow ex.fk ex.f
 simp only[bw];rw[aD]at key;refine⟨hid',key,some ⟨w.heap.size,0,none⟩,gc,ak,.inr ⟨w.heap.size,0,rfl,by simp_all[fj],ak,fun cs T fr hcs=>?_⟩⟩;rw[hp.new]at hcs;simp only[aL,eA]at hcs;obtain⟨rfl,_,_⟩:=hcs;rw[hsz,bE,←ci,←ci];grind
theorem YR (hok:OkW G w L F U H){t u ty e e':TypeId}{te:TI}(ht:P.underlying t=some (.slice e))(hu:P.underlying u=some (.slice e'))(hte:cN P e=some te)
  {aid:Id}{vx vy:Value}{xs ys:List FD}(hx:bw w L F U (.ow aid te.size xs) vx){o:O}(ho:H aid=some o)(h2:Src w L F U te.size vy ys.length (bA ys))(hlx:dP xs te.size)(hly:dP ys te.size)(hone:(bA ys).all fh=true)
  (hf:fits (xs.length+ys.length) te.bytes){id:Id}{U':Id→Prop}(hid:¬U id)(hU:∀i,U i→U' i)(hid':U' id):
  ∃v w' L' F',(Builtin.append_ #[t,u] ty #[vx,vy]).run P w= .ok v w'∧OkW G w' L' F' U' (cp (cp H aid none) id (some tok))∧
   bw w' L' F' U' (.ow id te.size (xs++ys)) v∧dH H w L F U (cp (cp H aid none) id (some tok)) w' L' F' U':=by
 simp only[bw]at hx;obtain⟨hUa,hx,a,cap,rfl,hcap⟩:=hx;have hle:xs.length≤cap:=by obtain⟨a',cap',he,h1,_⟩:=hx.sl_inv;injection he with _ _ e3;omega
 have hsub:∀i x,cp H aid none i=some x→H i=some x:=by simp_all[cp]
 have hne:id≠aid:=by rintro rfl;exact hid hUa
 rcases aA cap (xs.length+ys.length)with hg|hg
 ·exact HV hok ht hu hte hx h2 hlx hly hg hf hsub hid hU hid'
 obtain⟨i,z,d,g1,g2,g3,rfl⟩:=jg hte;dsimp only at*;obtain⟨f2,r2,v2⟩:=h2.run (P:=P) (w':=w) rfl;obtain⟨ya,yc,rfl,_,_,l2,_⟩:=_root_.id h2;rcases hcap with hcap|⟨b,off,rfl,hLa,hlt,hsz⟩
 ·
  have hy0:ys=[]:=bG ae;subst hy0;obtain⟨k1,k2⟩:=tw (hok.sub hsub) hid hU hid' false;refine⟨.slice a xs.length cap,w,fj L id ⟨0,0,true⟩,F,?_,k1,?_,((dH.refl H w L F U).sub hsub).trans k2⟩
  ·simp_all[s5,storeCells]
  grind[bw]
 ·have hv:(L aid).3=false:=by rw[hLa]
  obtain⟨hnF,cs,T,hblk,hfit,_⟩:=iL (hok.live aid o ho).2 hv;have hLa1:(L aid).1=b:=by rw[hLa]
  have hLa2:(L aid).2=off+xs.length*i.size:=by rw[hLa]
  rw[hLa1]at hblk;have hcs:=hsz _ _ _ hblk;have hmul:(xs.length+ys.length)*i.size=xs.length*i.size+ys.length*i.size:=ci _ _ _;have hroom:off+xs.length*i.size+ys.length*i.size≤cs.size:=by have:(xs.length+ys.length)*i.size≤cap*i.size:=bW _ hg;omega
  have hnl:((List.range (ys.length*i.size)).map f2).length=ys.length*i.size:=ak
  have hll2:=mw (jJ hly);have hone':∀u∈(List.range (ys.length*i.size)).map f2,u.oneCell'=true:=by
   intro u hu';obtain⟨j,hj,rfl⟩:=be.1 hu';have hj':j<ys.length*i.size:=by simpa using hj
   rw[cB]at hone;refine wR (v2 j hj') (hone _ ?_);rw[av,ay ae];exact ap
  have hrun:=ux (P:=P) (b:=b) (off:=off+xs.length*i.size) (T:=T) ((List.range (ys.length*i.size)).map f2) 0 w cs hblk hone' ae;have hL':fj L id ⟨b,off+(xs.length+ys.length)*i.size,false⟩ id=⟨b,off+(xs.length+ys.length)*i.size,false⟩:=by simp[fj]
  have hLo:∀j,U j→fj L id ⟨b,off+(xs.length+ys.length)*i.size,false⟩ j=L j:=by grind[fj]
  have hlow:∀q,q<off+xs.length*i.size→((((List.range (ys.length*i.size)).map f2).zipIdx 0).foldl (fun cs (p:Value×Nat)=>cs.setIfInBounds (off+xs.length*i.size+p.2) p.1) cs)[q]?=cs[q]?:=fun q hq=>by rw[pg _ _ _ _ _ ae,az ae]
  have key:=B6 hok ho hv (by rw[hLa1];exact hblk) (qm ((List.range (ys.length*i.size)).map f2) 0 (off+xs.length*i.size) cs) (fun q hq=>hlow q (by rw[←hLa2];exact hq)) (id':=id)
   (o':=tok) (L':=fj L id ⟨b,off+(xs.length+ys.length)*i.size,false⟩) (U':=U') hU hid' hLo ap ap qWe (.inr hid)
   (F':=fun b' k=>F b' k∨(b'=b∧off+xs.length*i.size≤k∧k<off+(xs.length+ys.length)*i.size)) ap ap
   (by grind[tok]) (by simp_all[tok])
  rw[hLa1]at key;obtain⟨k1,k2⟩:=key;have e:=k2.ext hok;refine⟨.slice (some ⟨b,off,none⟩) (xs.length+ys.length) cap,_,_,_,?_,k1,?_,k2⟩
  ·grind[s5,mQ]
  ·have hlall:dP (xs++ys) i.size:=fun x hx=>by
    rcases aO.1 hx with h|h
    ·exact hlx x h
    ·exact hly x h
   have hfl:bA (xs++ys)=bA xs++bA ys:=by simp[bA]
   have hll:=mw (jJ hlx);obtain⟨a1,c1,he1,q1,q2,_,q4⟩:=sD (L:=L) (U:=U) hx hlx;injection he1 with e1 _ _;subst e1;simp only[bw];refine⟨hid',?_,some ⟨b,off,none⟩,cap,ak,.inr ⟨b,off,rfl,ap,by rw[uR];omega,fun cs1 T1 fr1 h=>?_⟩⟩
   ·have hap:(xs++ys).length=xs.length+ys.length:=aD;have key2:=@yY (w:=js w b (.cells ((((List.range (ys.length*i.size)).map f2).zipIdx 0).foldl (fun cs (p:Value×Nat)=>cs.setIfInBounds (off+xs.length*i.size+p.2) p.1) cs) T (0,0))) (F:=fun b' k=>F b' k∨(b'=b∧off+xs.length*i.size≤k∧k<off+(xs.length+ys.length)*i.size)) (L:=L) (U:=U) (xs:=xs++ys) (es:=i.size) (b:=b) (off:=off) (cap:=cap);rw[hap]at key2;refine key2 hlall hg hf.1 (fun k hk=>?_) (fun k hk=>?_)
    ·rw[hmul]at hk;by_cases hj1:k<xs.length*i.size
     ·left;have hpos:0<xs.length:=by
       rcases cj xs.length with h|h
       ·rw[h]at hj1;omega
       ·exact h
      obtain⟨_,_,_,_,_,h3⟩:=hx.sl_inv;rename_i he _ _;obtain⟨b2,off2,es2,vs2,hab,hF2,hes2,_⟩:=h3 hpos;injection he with he1 _ _;rw[←he1]at hab;injection hab with hab;injection hab with hb2 hoff2;have hes3:es2=i.size:=by rw[←hes2 0 hpos,jJ hlx 0 hpos]
      subst hb2 hoff2 hes3;exact hF2 k hj1
     omega
    ·rw[hmul]at hk;rw[nA (qu (pe hblk)),hfl];by_cases hj1:k<xs.length*i.size
     ·have hpos:0<xs.length:=by
       rcases cj xs.length with h|h
       ·rw[h]at hj1;omega
       ·exact h
      obtain⟨b3,o3,hab,hc3⟩:=q4 hpos;injection hab with hab;injection hab with hb3 ho3;subst hb3 ho3;obtain⟨u,u1,u2⟩:=hc3 k ae;rw[tE hblk]at u1;rw[hlow _ ae];refine⟨u,u1,?_⟩;rw[qk ae];obtain⟨x,hx⟩:=sC (xs:=xs) (k:=k) ae;rw[hx]at u2 ⊢;exact u2.mono_ow e.fk e.f
     ·have hj2:k-xs.length*i.size<ys.length*i.size:=ae
      rw[pg _ _ _ _ _ ae,hnl,aF ae];have e2:off+k-(off+xs.length*i.size+0)=k-xs.length*i.size:=ae
      refine⟨f2 (k-xs.length*i.size),by rw[e2];simp[hj2],?_⟩;have h3:=v2 _ hj2;rw[ql ae,hll];obtain⟨x,hx⟩:=sC (xs:=ys) (k:=k-xs.length*i.size) ae;rw[hx]at h3 ⊢;exact h3.mono_ow e.fk e.f
   ·rw[qu (pe hblk)]at h;simp only[aL,eA]at h;obtain⟨rfl,_,_⟩:=h;rw[qm];omega
end
section
variable {P:Program} {G:Nat→List FD} {w:World} {L:Loc} {F:Nat→Nat→Prop} {U:Id→Prop} {H:bR}
theorem XV {j:Nat}(ar:Array Value)(h:j<ar.size):ar[j]?=some (ar.getD j undef):=aq
theorem CI {size:Nat}:∀(pv:List Value) (k:Nat) (vs:Array Value),vs.size=(k+pv.length)*size→(∀v∈pv,v.cells.size=size)→
  ∃us,Instr.fill (fun i=>some (i*size,size)) vs ((pv.zipIdx k).map fun p=>(p.2,p.1))=some us∧us.size=vs.size∧(∀j,j<k*size→us[j]?=vs[j]?)∧
   ∀i j,i<pv.length→j<size→us[(k+i)*size+j]?=(pv.getD i undef).cells[j]?
 |[],k,vs,_,_=>⟨vs,rfl,rfl,fun _ _=>rfl,fun i j hi=>by simp at hi⟩
 |v::pv,k,vs,hsz,hall=>by
  have hv:v.cells.size=size:=hall v ak;have hk:(k+(pv.length+1))*size=k*size+size+pv.length*size:=by rw[ci,ci];omega
  simp only[aN]at hsz;have hset:(v.cells.zipIdx.foldl (fun cs (c,j)=>cs.setIfInBounds (k*size+j) c) vs)=(v.cells.toList.zipIdx.foldl (fun cs (p:Value×Nat)=>cs.setIfInBounds (k*size+p.2) p.1) vs):=by rw[←Array.foldl_toList,Array.toList_zipIdx]
  have hvs:vs.size=k*size+size+pv.length*size:=hsz.trans hk;have hk1:(k+1)*size=k*size+size:=by rw[ci];omega
  have hsz':=qm v.cells.toList 0 (k*size) vs;obtain⟨us,h1,h2,h3,h4⟩:=CI pv (k+1) _ (by rw[hsz',hsz];congr 1;omega) (fun u hu=>hall u (cg _ hu));refine⟨us,?_,by rw[h2,hsz'],fun j hj=>?_,fun i j hi hj=>?_⟩
  ·simp only[eM,aM,Instr.fill];rw[az (by rw[hv];simp;omega),hset];exact h1
  ·rw[h3 j ae,pg _ _ _ _ _ ao,az ao]
  ·cases i with
   |zero=>rw[h3 _ (by rw[hk1,bJ];omega),pg _ _ _ _ _ ao,aF ao];simp[show k*size+j-k*size=j by omega]
   |succ i=>have:=h4 i j (by simpa using hi) hj;rw[show k+(i+1)=k+1+i by omega];simpa using this
theorem WT {ds:List D}{xs:List FD}(h:D.toFDs ds=some xs):xs.length=ds.length:=by
 induction ds generalizing xs with
 |nil=>simp_all[D.toFDs]
 |cons d ds ih=>grind[D.toFDs]
theorem XL {v:Value}{x:FD}(h:dD w F v x):v.cells.size=x.cells.length∧∀j,j<x.cells.length→dD w F (v.cells.getD j undef) (x.cells.getD j .nilf):=by
 have h1:bw w (fun _=>⟨0,0,false⟩) F (fun _=>True) (.fz x) v:=by simpa only[bw]using h
 have h2:=bw.cs h1 ak;rw[cA.iff]at h2;obtain⟨h3,h4⟩:=h2;simp_all[D.cs,bw]
theorem V5 (hok:OkW G w L F U H){t:TypeId}{te:TI}{n:Nat}{ps:Array (Nat×Operand)}{ev:Operand→D}{ρ:Operand→Value}(hte:fG P t=some te)
  (hidx:ps.toList.map (·.1)=List.range n){xs:List FD}(hx:D.toFDs (ps.toList.map fun p=>ev p.2)=some xs)(hl:dP xs te.size)(hn:n*te.size≤2^24)(hmax:n≤dt)
  (hr:∀x,bw w L F U (ev x) (ρ x)):
  ∃v w' F',(Instr.buildSlice t n (ps.map fun(i,x)=>(i,ρ x))).run P w= .ok v w'∧OkW G w' L F' U H∧bw w' L F' U (.full xs) v∧dH H w L F U H w' L F' U:=by
 obtain⟨e,hu,he⟩:=pf hte;have hlen:xs.length=n:=by rw[WT hx,aG];have:=a8 List.length hidx;simpa using this
 obtain⟨hl1,hl2⟩:=cA.toFDs _ _ _ (cA.iff (w:=w) (L:=L) (F:=F) (U:=U) (ps.toList.map fun p=>ev p.2) (ps.toList.map fun p=>ρ p.2)|>.2
  ⟨ak,fun j hj=>by
   have hj':j<ps.toList.length:=by simpa using hj
   simp only[av,bp,ay hj',bL,bD];exact hr _⟩) hx
 have hpv:(ps.map fun(i,x)=>(i,ρ x)).toList=((ps.toList.map fun p=>ρ p.2).zipIdx 0).map fun p=>(p.2,p.1):=by
  apply List.ext_getElem?;intro j;simp only[Array.toList_map,bp,List.getElem?_zipIdx];have:=a8 (fun l=>l[j]?) hidx;simp only[bp]at this;cases hj:ps.toList[j]? with
  |none=>simp
  |some p=>
   have hjn:j<n:=by
    have h1:j<ps.toList.length:=by
     rcases aA j ps.toList.length with h|h
     ·exact h
     ·rw[jF h]at hj;cases hj
    have:=a8 List.length hidx;simp at this h1;omega
   rw[hj,fm hjn]at this;simp at this;simp[this]
 have hcells:∀i,i<n→((ps.toList.map fun p=>ρ p.2).getD i undef).cells.size=te.size∧∀j,j<te.size→
   dD w F (((ps.toList.map fun p=>ρ p.2).getD i undef).cells.getD j undef) ((xs.getD i .nilf).cells.getD j .nilf):=fun i hi=>by
  obtain⟨c1,c2⟩:=XL (hl2 i ae);rw[jJ hl i ae]at c1 c2;exact⟨c1,c2⟩
 have hall:∀v∈(ps.toList.map fun p=>ρ p.2),v.cells.size=te.size:=by
  intro v hv;obtain⟨i,hi,rfl⟩:=bI hv;have hi':i<n:=by have:=hl1;simp only[aG]at this hi;omega
  have:=(hcells i hi').1;rwa [av,ay hi]at this
 have hpl:(ps.toList.map fun p=>ρ p.2).length=n:=by rw[hl1,hlen]
 obtain⟨inf,z,u,g1,g2,g3,rfl⟩:=jg he;dsimp only at*
 obtain⟨us,k1,k2,k3,k4⟩:=CI (size:=inf.size) (ps.toList.map fun p=>ρ p.2) 0
  ((Array.range (n*inf.size)).map fun j=>(if n*inf.size=0 then #[]else z.cells)[j % (if n*inf.size=0 then #[]else z.cells).size]!) (by simp[hpl]) hall
 have hp:=j'.alloc w (.cells us e);obtain⟨o1,o2⟩:=NL hok hp;have hrun:(Instr.buildSlice t n (ps.map fun(i,x)=>(i,ρ x))).run P w= .ok (.slice (some ⟨w.heap.size,0,none⟩) n n) (w.alloc (.cells us e)):=by
  simp only[Instr.buildSlice,dG,bc hu,cV,sizeOf,typeInfo,lS,g1,gn,lR,az (show¬(n*inf.size>2^24) by omega),zeroValue,g2];rw[hpv];by_cases h0:n*inf.size=0
  ·simp only[h0,cJ]at k1 ⊢;simp only[k1];simp[newRow]
  ·simp only[h0,cd]at k1 ⊢;simp only[k1];simp[newRow]
 refine⟨_,_,_,hrun,o1,?_,o2⟩;simp only[bw];refine⟨some ⟨w.heap.size,0,none⟩,by rw[hlen],?_⟩;have:=dD.sl_mk (w:=w.alloc (.cells us e)) (F:=fun b k=>F b k∨b=w.heap.size) (xs:=xs) (a:=some ⟨w.heap.size,0,none⟩) (cap:=n) ae ae (fun hpos=>
  ⟨w.heap.size,0,inf.size,fun i j=>((ps.toList.map fun p=>ρ p.2).getD i undef).cells.getD j undef,rfl,fun _ _=> .inr rfl,jJ hl,fun i j hi hj=>by have h5:=k4 i j ae hj;have h6:=(hcells i ae).1;rw[nA hp.new];rw[bE]at h5 ⊢;rw[h5];exact XV _ (by rw[h6];exact hj),fun i j hi hj=>((hcells i ae).2 j hj).mono (o2.ext hok).fk (o2.ext hok).f⟩)
 rwa [hlen]at this
def rk (n:Nat)(d:D):Bool:=d.known&&d.cs.length==n
theorem HS {α:Type}{f:α→List D}{es:Nat}:∀{l:List α},(∀x∈l,(f x).length=es)→(l.flatMap f).length=l.length*es∧
  ∀i (hi:i<l.length) j,j<es→(l.flatMap f).getD (i*es+j) .junk=(f l[i]).getD j .junk
 |[],_=>ap
 |x::l,h=>by
  have h0:=h x ak;obtain⟨h1,h2⟩:=HS (l:=l) fun y hy=>h y (cg _ hy);refine⟨ap,fun i hi j hj=>?_⟩;rw[cU];cases i with
  |zero=>grind
  |succ i=>grind
theorem WP (hok:OkW G w L F U H){t:TypeId}{te:TI}{n:Nat}{ps:Array (Nat×Operand)}{ev:Operand→D}{ρ:Operand→Value}(hte:fG P t=some te)
  (hidx:ps.toList.map (·.1)=List.range n)(hone:ps.toList.all (fun p=>rk te.size (ev p.2))=true)(hn:n≤2^24)(hn2:n*te.size≤2^24)
  (hr:∀x,bw w L F U (ev x) (ρ x)){id:Id}{U':Id→Prop}(hid:¬U id)(hU:∀i,U i→U' i)(hid':U' id):
  ∃v w' L',(Instr.buildSlice t n (ps.map fun(i,x)=>(i,ρ x))).run P w= .ok v w'∧OkW G w' L' F U' (cp H id (some ⟨ps.toList.flatMap fun p=>(ev p.2).cs,false,false⟩))∧bw w' L' F U' (.arr id te.size 0 n) v∧
   dH H w L F U (cp H id (some ⟨ps.toList.flatMap fun p=>(ev p.2).cs,false,false⟩)) w' L' F U':=by
 obtain⟨e,hu,he⟩:=pf hte;have hpl:(ps.toList.map fun p=>ρ p.2).length=n:=by have:=a8 List.length hidx;simpa using this
 have hpv:(ps.map fun(i,x)=>(i,ρ x)).toList=((ps.toList.map fun p=>ρ p.2).zipIdx 0).map fun p=>(p.2,p.1):=by
  apply List.ext_getElem?;intro j;simp only[Array.toList_map,bp,List.getElem?_zipIdx];have:=a8 (fun l=>l[j]?) hidx;simp only[bp]at this;cases hj:ps.toList[j]? with
  |none=>simp
  |some p=>
   have hjn:j<n:=by
    have h1:j<ps.toList.length:=by
     rcases aA j ps.toList.length with h|h
     ·exact h
     ·rw[jF h]at hj;cases hj
    have:=a8 List.length hidx;simp at this h1;omega
   rw[hj,fm hjn]at this;simp at this;simp[this]
 have hlenP:ps.toList.length=n:=by simpa using hpl
 have hw:∀p∈ps.toList,(ev p.2).known=true∧(ev p.2).cs.length=te.size:=fun p hp=>by have h1:=cB.1 hone p hp;simpa[rk]using h1
 have hcell:∀i (hi:i<ps.toList.length),(ρ ps.toList[i].2).cells.size=te.size∧∀j,j<te.size→bw w L F U ((ev ps.toList[i].2).cs.getD j .junk) ((ρ ps.toList[i].2).cells.toList.getD j undef):=fun i hi=>by obtain⟨h1,h2⟩:=hw _ (aT hi);have h4:=(cA.iff _ _).1 (bw.cs (hr ps.toList[i].2) (zh h1));rw[h2]at h4;exact⟨by simpa using h4.1,h4.2⟩
 have hall:∀v∈(ps.toList.map fun p=>ρ p.2),v.cells.size=te.size:=by intro v hv;obtain⟨i,hi,rfl⟩:=bI hv;rw[cm];exact(hcell i (by simpa using hi)).1
 obtain⟨hfl,hfg⟩:=HS (f:=fun p:Nat×Operand=>(ev p.2).cs) fun p hp=>(hw p hp).2;obtain⟨inf,z,u,g1,g2,g3,rfl⟩:=jg he;dsimp only at*
 obtain⟨us,k1,k2,k3,k4⟩:=CI (size:=inf.size) (ps.toList.map fun p=>ρ p.2) 0
  ((Array.range (n*inf.size)).map fun j=>(if n*inf.size=0 then #[]else z.cells)[j % (if n*inf.size=0 then #[]else z.cells).size]!) (by simp[hpl]) hall
 have hp:=j'.alloc w (.cells us e);have hus:us.size=n*inf.size:=by rw[k2];simp
 have hrun:(Instr.buildSlice t n (ps.map fun(i,x)=>(i,ρ x))).run P w= .ok (.slice (some ⟨w.heap.size,0,none⟩) n n) (w.alloc (.cells us e)):=by
  simp only[Instr.buildSlice,dG,bc hu,cV,sizeOf,typeInfo,lS,g1,gn,lR,az (show¬(n*inf.size>2^24) by omega),zeroValue,g2];rw[hpv];by_cases h0:n*inf.size=0
  ·simp only[h0,cJ]at k1 ⊢;simp only[k1];simp[newRow]
  ·simp only[h0,cd]at k1 ⊢;simp only[k1];simp[newRow]
 obtain⟨o1,o2⟩:=vl hok hp hid hU hid' (cells:=ps.toList.flatMap fun p=>(ev p.2).cs) (by rw[hfl,hlenP,hus];exact aI _) (fun k hk=>by
  rw[hfl]at hk;have hpos:0<inf.size:=by
   rcases cj inf.size with h|h
   ·rw[h]at hk;simp at hk
   ·exact h
  have hi:k / inf.size<ps.toList.length:=(Nat.div_lt_iff_lt_mul hpos).2 hk;have hj:k % inf.size<inf.size:=ez _ hpos;have hkk:k / inf.size*inf.size+k % inf.size=k:=by rw[df];exact du k inf.size
  have h3:=k4 (k / inf.size) (k % inf.size) (by rw[hpl,←hlenP];exact hi) hj;have h4:=hfg _ hi _ hj;obtain⟨c1,c2⟩:=hcell _ hi;rw[bE,hkk]at h3;rw[hkk]at h4;refine⟨(ρ ps.toList[k / inf.size].2).cells.toList.getD (k % inf.size) undef,?_,?_⟩
  ·rw[h3,av,bp,ay hi];simp only[bL,bD];have h5:k % inf.size<(ρ ps.toList[k / inf.size].2).cells.size:=by rw[c1];exact hj
   rw[Array.getElem?_eq_getElem h5,av,ay (by simpa using h5)];simp
  ·rw[h4];exact c2 _ hj) false
 refine⟨_,_,_,hrun,o1,?_,o2⟩;simp only[bw];refine⟨hid',some ⟨w.heap.size,0,none⟩,n,rfl,aI _,qQ9,.inr ⟨qQr,qQr,by simp[fj,hp.size],fun cs T fr hc=>?_⟩⟩;have:cs=us:=by have h1:=hp.new;simp only[fj,cJ]at hc;rw[h1]at hc;injection hc with hc;injection hc with hc;exact hc.symm
 subst this;simp[fj,hus]
theorem XU (hok:OkW G w L F U H){t u ty e e':TypeId}{te:TI}(ht:P.underlying t=some (.slice e))(hu:P.underlying u=some (.slice e'))(hte:cN P e=some te)
  {xs ys:List FD}{vx vy:Value}(hx:bw w L F U (.full xs) vx)(hy:dD w F vy (.sl ys))(hl:dP xs te.size)(hly:dP ys te.size)
  (hf:fits (xs.length+ys.length) te.bytes):
  ∃v w' F',(Builtin.append_ #[t,u] ty #[vx,vy]).run P w= .ok v w'∧OkW G w' L F' U H∧bw w' L F' U (.fz (.sl (xs++ys))) v∧dH H w L F U H w' L F' U:=by
 have h2:=sD (L:=L) (U:=U) hy hly;simp only[bw]at hx;obtain⟨a,rfl,hx⟩:=hx;have h1:=sD (L:=L) (U:=U) hx hl;obtain⟨i,z,d,g1,g2,g3,rfl⟩:=jg hte;dsimp only at*;rcases cj ys.length with h0|hpos
 ·obtain rfl:=jd.1 h0;obtain⟨ya,yc,rfl,_⟩:=h2;refine⟨.slice a xs.length xs.length,w,F,?_,hok,by simp_all[bw],dH.refl _ _ _ _ _⟩;simp_all[s5,wy,storeCells]
 ·obtain⟨f1,r1,v1⟩:=h1.run (P:=P) (w':=w.drew) rfl;obtain⟨f2,r2,v2⟩:=h2.run (P:=P) (w':=w.drew) rfl;obtain⟨ya,yc,rfl,_⟩:=h2;have hrun:=Bv (P:=P) (w:=w) (ty:=ty) ht hu g1 g2 r1 r2 ae hf;have hge:=wE w (xs.length+ys.length) xs.length e;generalize grownCap w (xs.length+ys.length) xs.length e=gc at hrun hge;have hp:=j'.drewAlloc w (.cells (((List.range (xs.length*i.size)).map f1).toArray++((List.range (ys.length*i.size)).map f2).toArray++Builtin.zeroCells z.cells (gc-(xs.length+ys.length))) e);obtain⟨o1,o2⟩:=NL hok hp;refine⟨_,_,_,hrun,o1,?_,o2⟩;simp only[bw];have hfl:(bA (xs++ys))=bA xs++bA ys:=by simp[bA]
  have hlall:dP (xs++ys) i.size:=fun x hx=>by
   rcases aO.1 hx with h|h
   ·exact hl x h
   ·exact hly x h
  have:=dD.sl_mk (w:=w.drew.alloc (.cells (((List.range (xs.length*i.size)).map f1).toArray++((List.range (ys.length*i.size)).map f2).toArray++Builtin.zeroCells z.cells (gc-(xs.length+ys.length))) e))
   (F:=fun b k=>F b k∨b=w.heap.size) (xs:=xs++ys) (a:=some ⟨w.heap.size,0,none⟩) (cap:=gc) ap (by simpa using hf.1) (fun _=>
   ⟨w.heap.size,0,i.size,fun a b=>if a*i.size+b<xs.length*i.size then f1 (a*i.size+b)else f2 (a*i.size+b-xs.length*i.size),rfl,ae,jJ hlall,fun a b ha hb=>by
    simp only[aD]at ha;rw[nA hp.new,bE];by_cases hab:a*i.size+b<xs.length*i.size
    ·grind
    ·simp only[hab,cd];have hlt:a*i.size+b<(xs.length+ys.length)*i.size:=by have:(a+1)*i.size≤(xs.length+ys.length)*i.size:=bW _ ha;rw[ci]at this;omega
     grind,fun a b ha hb=>by
    have hg:=uG (jJ hlall) ha hb;rw[hfl]at hg;simp only[aD]at ha;have hlx:=mw (jJ hl);by_cases hab:a*i.size+b<xs.length*i.size
    ·simp only[hab,cJ];have h3:=v1 _ hab;rw[qk ae]at hg;rw[hg]at h3;simp only[bw]at h3;exact h3.mono (o2.ext hok).fk (o2.ext hok).f
    ·simp only[hab,cd];have hlt:a*i.size+b<(xs.length+ys.length)*i.size:=by have:(a+1)*i.size≤(xs.length+ys.length)*i.size:=bW _ ha;rw[ci]at this;omega
     rw[ci]at hlt;have h3:=v2 (a*i.size+b-xs.length*i.size) ae;rw[ql ae,hlx]at hg;rw[hg]at h3;simp only[bw]at h3;exact h3.mono (o2.ext hok).fk (o2.ext hok).f⟩)
  grind
theorem V' (hok:OkW G w L F U H){t u ty e e':TypeId}{te:TI}(ht:P.underlying t=some (.slice e))(hu:P.underlying u=some (.slice e'))(hte:cN P e=some te)
  {xs ys:List FD}{vx vy:Value}(hx:bw w L F U (.full xs) vx)(h2:Src w L F U te.size vy ys.length (bA ys))(hl:dP xs te.size)(hly:dP ys te.size)
  (hf:fits (xs.length+ys.length) te.bytes){id:Id}{U':Id→Prop}(hid:¬U id)(hU:∀i,U i→U' i)(hid':U' id):
  ∃v w' L' F',(Builtin.append_ #[t,u] ty #[vx,vy]).run P w= .ok v w'∧OkW G w' L' F' U' (cp H id (some tok))∧bw w' L' F' U' (.ow id te.size (xs++ys)) v∧dH H w L F U (cp H id (some tok)) w' L' F' U':=by
 simp only[bw]at hx;obtain⟨a,rfl,hx⟩:=hx;rcases cj ys.length with h0|hpos
 ·obtain rfl:=jd.1 h0;obtain⟨i,z,d,g1,g2,g3,rfl⟩:=jg hte;obtain⟨ya,yc,rfl,_⟩:=h2;obtain⟨k1,k2⟩:=tw hok hid hU hid' false;refine⟨.slice a xs.length xs.length,w,fj L id ⟨0,0,true⟩,F,?_,k1,?_,k2⟩
  ·simp_all[s5,wy,storeCells]
  grind[bw]
 ·exact HV hok ht hu hte hx h2 hl hly ae hf (fun _ _ h=>h) hid hU hid'
theorem Rv (hok:OkW G w L F U H){t:TypeId}{te:TI}(hte:fG P t=some te){k k':IntKind}{n:Int}(h0:0≤n)(hn:n.toNat≤dt)(hb:te.bytes*n≤2^48)
  {id:Id}{U':Id→Prop}(hid:¬U id)(hU:∀i,U i→U' i)(hid':U' id):
  ∃v w' L',(Instr.makeSlice t (.int k n) (.int k' n)).run P w= .ok v w'∧
   OkW G w' L' F U' (cp H id (some ⟨(List.range (n.toNat*te.size)).map fun j=>te.zero.getD (j % te.size) .junk,false,false⟩))∧bw w' L' F U' (.arr id te.size 0 n.toNat) v∧
   dH H w L F U (cp H id (some ⟨(List.range (n.toNat*te.size)).map fun j=>te.zero.getD (j % te.size) .junk,false,false⟩)) w' L' F U':=by
 obtain⟨e,hu,he⟩:=pf hte;have hz:=rz he;obtain⟨inf,z,u,g1,g2,g3,rfl⟩:=jg he;dsimp only at*;simp only[aG,cG]at hz;have hw:IntKind.i64.wrap n=n:=tG ⟨by grind[IntKind.min],by grind[dt,IntKind.max,IntKind.bits]⟩;have hsz:∀m,((Array.range m).map fun j=>(if m=0 then #[]else z.cells)[j % (if m=0 then #[]else z.cells).size]!).size=m:=ak
 have hp:=j'.alloc w (.cells ((Array.range (n.toNat*inf.size)).map fun j=>(if n.toNat*inf.size=0 then #[]else z.cells)[j % (if n.toNat*inf.size=0 then #[]else z.cells).size]!) e);obtain⟨o1,o2⟩:=vl hok hp (cells:=(List.range (n.toNat*inf.size)).map fun j=>(z.cells.toList.map r5).getD (j % inf.size) .junk) hid hU hid' ak (fun j hj=>by
  have hj':j<n.toNat*inf.size:=by simpa using hj
  have hne:¬n.toNat*inf.size=0:=ae
  have hpos:0<inf.size:=by
   rcases cj inf.size with h|h
   ·grind
   ·exact h
  have hm:j % inf.size<z.cells.size:=by rw[hz];exact ez _ hpos
  simp_all[CT]) false
 refine⟨.slice (some ⟨w.heap.size,0,none⟩) n.toNat n.toNat,_,_,?_,o1,?_,o2⟩
 ·have hb':¬((inf.bytes:Int)*n>2^48):=ae
  have hn0:¬n<0:=ae
  simp only[Instr.makeSlice,dG,bc hu,cV,asInt,asIntOf,gn,typeInfo,lS,g1,hw,hn0,hb',bK,decide_false,Bool.or_self,da,ck,cd,gt_iff_lt,lR,run_askRoom,sizeOf,zeroValue,g2];by_cases h:n.toNat*inf.size=0
  all_goals simp_all[newRow]
 ·simp only[bw];refine⟨hid',_,_,rfl,aI _,hn,.inr ⟨qQr,qQr,qQr,fun cs T fr hcs=>?_⟩⟩;have hL:fj L id ⟨w.heap.size,0,false⟩ id=⟨w.heap.size,0,false⟩:=by simp[fj]
  rw[hL]at hcs ⊢;rw[hp.new]at hcs;grind
theorem Zk (hok:OkW G w L F U H){t:TypeId}{d:D}{v:Value}(hd:bw w L F U d v)(hk:d≠ .junk)
  {id:Id}{U':Id→Prop}(hid:¬U id)(hU:∀i,U i→U' i)(hid':U' id):
  ∃a w' L',(newVar t v).run P w= .ok a w'∧OkW G w' L' F U' (cp H id (some ⟨d.cs,true,false⟩))∧bw w' L' F U' (.ptr id 0) (.pointer (some a))∧
   dH H w L F U (cp H id (some ⟨d.cs,true,false⟩)) w' L' F U':=by
 have hp:=j'.alloc w (.cells v.cells t);have hcs:=(cA.iff _ _).1 (bw.cs hd hk);obtain⟨o1,o2⟩:=vl hok hp (cells:=d.cs) hid hU hid' ap (fun j hj=>ap) true;refine⟨_,_,_,by simp[newVar,newRow];rfl,o1,?_,o2⟩;simp_all[bw,fj]
theorem Ye (hok:OkW G w L F U H){t:TypeId}{ti:TI}(hti:cN P t=some ti)
  {id:Id}{U':Id→Prop}(hid:¬U id)(hU:∀i,U i→U' i)(hid':U' id)(old:Value):
  ∃v w' L',(Instr.alloc t true old).run P w= .ok v w'∧OkW G w' L' F U' (cp H id (some ⟨ti.zero,true,false⟩))∧bw w' L' F U' (.ptr id 0) v∧
   dH H w L F U (cp H id (some ⟨ti.zero,true,false⟩)) w' L' F U':=by
 obtain⟨inf,z,u,g1,g2,g3,rfl⟩:=jg hti;have hp:=j'.alloc w (.cells z.cells t);have hcs:=(cA.iff _ _).1 (MB (w:=w) (L:=L) (F:=F) (U:=U) z);obtain⟨o1,o2⟩:=vl hok hp (cells:=z.cells.toList.map r5) hid hU hid' ak (fun j hj=>by
  refine⟨z.cells.toList.getD j undef,?_,hcs.2 j hj⟩;have:j<z.cells.toList.length:=by rw[hcs.1];exact hj
  rw[av,ay this];simp at this ⊢) true
 refine⟨_,_,_,by simp[Instr.alloc,zeroValue,typeInfo,g1,g2,newVar,newRow];rfl,o1,?_,o2⟩;simp only[bw];refine⟨hid',qQr,qQr⟩
end
structure St where
 fr:Nat→D
 H:bR
 n:Nat
def upd (f:Nat→D)(i:Nat)(x:D):Nat→D:=fun j=>if j=i then x else f j
def AN (k:IntKind)(n:Int):Bool:=decide (k.min≤n)&&decide (n≤k.max)
def rP:Value→D
 | .bool b=> .fz (.b b)
 | .int k n=>if AN k n then .fz (.i k n)else .junk
 | .string s=>if s.data.toList.length≤1000000 then .fz (.s s.data.toList)else .junk
 | .slice none 0 0=> .full []
 | .nilFunc=> .fz .nilf
 |_=> .junk
def St.ev (G:Nat→List FD)(st:St):Operand→D
 | .tmp t=>st.fr t
 | .const v=>rP v
 | .global g=>match G g with
  |[]=> .junk
  |x::xs=> .rp (x::xs)
 | .func f=> .fn f []
def St.put (st:St)(dst:Option Tmp)(d:D):St:=
 match dst with
 |some t=>{st with fr:=upd st.fr t d}
 |none=>st
def Ub (n:Nat):Id→Prop:=fun id=>id.2<n
structure Rel (G:Nat→List FD)(N:Nat)(st:St)(a:Act)(w:World)(L:Loc)(F:Nat→Nat→Prop):Prop where
 ok:OkW G w L F (Ub st.n) st.H
 size:a.tmps.size=N
 fr:∀t,bw w L F (Ub st.n) (st.fr t) (a.tmps.getD t undef)
 nd:a.defers=[]
def oY (st:St)(w:World)(L:Loc)(F:Nat→Nat→Prop)(st':St)(w':World)(L':Loc)(F':Nat→Nat→Prop):Prop:=
 dH st.H w L F (Ub st.n) st'.H w' L' F' (Ub st'.n)
def Sat (G:Nat→List FD)(N:Nat)(st0:St)(w0:World)(L0:Loc)(F0:Nat→Nat→Prop)(K:St→Prop)(a:Act)(w:World):Prop:=
 ∃st L F,K st∧Rel G N st a w L F∧oY st0 w0 L0 F0 st w L F
def cW (P:Program)(f:FuncId):Prop:=∀args w,(callFunc f args).run P w= .ok (.enter f args) w
def cS (P:Program)(G:Nat→List FD)(f:FuncId)(args:List D)(H:bR)(n:Nat)(Q:D→bR→Nat→Prop):Prop:=
 cW P f∧∀(w:World) (L:Loc) (F:Nat→Nat→Prop) (vs:List Value),OkW G w L F (Ub n) H→cA w L F (Ub n) args vs→
  Calls P f vs.toArray w fun e w'=>∃v d H' n' L' F',e= .returned v∧Q d H' n'∧OkW G w' L' F' (Ub n') H'∧bw w' L' F' (Ub n') d v∧dH H w L F (Ub n) H' w' L' F' (Ub n')
def fI (N:Nat):Option Tmp→Bool
 |some t=>decide (t<N)
 |none=>true
def St.new (st:St)(id:Id)(o:O)(dst:Option Tmp)(d:D):St:=
 {St.put st dst d with H:=cp st.H id (some o),n:=st.n+1}
def sk (P:Program)(st:St)(tag:Nat)(dst:Option Tmp)(t u:TypeId)(x y:D)(K:St→Prop):Prop:=
 match fG P t,cN P u with
 |some te,some ui=>
  match ui.isSlice,nN st.H te y,x with
  |true,some (n,src,c),.full xs=>
   (c∧dP xs te.size∧0<te.size∧(0<n∨xs=[])∧fits (xs.length+n) te.bytes∧
    K (st.new (tag,st.n) ⟨bA xs++src,false,(bA xs++src).isEmpty⟩ dst (.arr (tag,st.n) te.size 0 (xs.length+n))))∨
   (∃ys,y.toFD=some (.sl ys)∧dP xs te.size∧dP ys te.size∧fits (xs.length+ys.length) te.bytes∧K (st.put dst (.fz (.sl (xs++ys)))))∨
   (∃ys,n=ys.length∧src=bA ys∧c∧dP xs te.size∧dP ys te.size∧fits (xs.length+ys.length) te.bytes∧K (st.new (tag,st.n) tok dst (.ow (tag,st.n) te.size (xs++ys))))
  |true,some (n,src,c),.ow id es xs=>
   ∃ys o,n=ys.length∧src=bA ys∧c∧st.H id=some o∧es=te.size∧dP xs te.size∧dP ys te.size∧(bA ys).all fh=true∧fits (xs.length+ys.length) te.bytes∧
    K ({st with H:=cp st.H id none}.new (tag,st.n) tok dst (.ow (tag,st.n) te.size (xs++ys)))
  |true,some (n,src,c),.arr id es s len=>
   match st.H id with
   |some o=>c∧es=te.size∧s+len*te.size≤o.cells.length∧src.all fh=true∧0<te.size∧fits (len+n) te.bytes∧
     K ({st with H:=cp st.H id none}.new (tag,st.n) ⟨(o.cells.drop s).take (len*te.size)++src,false,o.virt&&((o.cells.drop s).take (len*te.size)++src).isEmpty⟩ dst (.arr (tag,st.n) te.size 0 (len+n)))
   |none=>False
  |_,_,_=>False
 |_,_=>False
def rN:D→Option (Nat)
 | .fz (.sl xs)=>some xs.length
 | .full xs=>some xs.length
 | .ow _ _ xs=>some xs.length
 | .arr _ _ _ len=>some len
 |_=>none
def jN (P:Program)(G:Nat→List FD)(N tag0:Nat)(o:Oper)(st:St)(K:St→Prop):Prop:=
 match gD P o (st.ev G) st.H with
 |some (d,c)=>fI N o.dst=true∧c∧K (st.put o.dst d)
 |none=>
  fI N o.dst=true∧
  match o.op with
  | .alloc e=>
   match cN P e with
   |some ti=>K (st.new (tag0+o.dst.getD 0,st.n) ⟨ti.zero,true,false⟩ o.dst (.ptr (tag0+o.dst.getD 0,st.n) 0))
   |none=>False
  | .box _ x=>(st.ev G x).known=true∧K (st.new (tag0+o.dst.getD 0,st.n) ⟨(st.ev G x).cs,true,false⟩ o.dst (.ptr (tag0+o.dst.getD 0,st.n) 0))
  | .makeSlice t l c=>
   match fG P t,st.ev G l,st.ev G c with
   |some te,.fz (.i _ n),.fz (.i _ m)=>m=n∧0≤n∧n.toNat≤dt∧te.bytes*n≤2^48∧
     K (st.new (tag0+o.dst.getD 0,st.n) ⟨(List.range (n.toNat*te.size)).map fun j=>te.zero.getD (j % te.size) .junk,false,false⟩ o.dst (.arr (tag0+o.dst.getD 0,st.n) te.size 0 n.toNat))
   |_,_,_=>False
  | .buildSlice t n ps=>
   (match fG P t,D.toFDs (ps.toList.map fun p=>st.ev G p.2)with
   |some te,some xs=>ps.toList.map (·.1)=List.range n∧dP xs te.size∧n*te.size≤2^24∧n≤dt∧K (st.put o.dst (.full xs))
   |_,_=>False)∨
   (match fG P t with
   |some te=>ps.toList.map (·.1)=List.range n∧ps.toList.all (fun p=>rk te.size (st.ev G p.2))=true∧n≤2^24∧n*te.size≤2^24∧
     K (st.new (tag0+o.dst.getD 0,st.n) ⟨ps.toList.flatMap fun p=>(st.ev G p.2).cs,false,false⟩ o.dst (.arr (tag0+o.dst.getD 0,st.n) te.size 0 n))
   |none=>False)
  | .store t a x=>
   match cN P t,st.ev G a with
   |some ti,.ptr id k=>
    match st.H id with
    |some ob=>o.dst=none∧ob.virt=false∧(st.ev G x).known=true∧(st.ev G x).cs.all fh=true∧(st.ev G x).cs.length=ti.size∧k+ti.size≤ob.cells.length∧
      K {st with H:=cp st.H id (some {ob with cells:=mh ob.cells k (st.ev G x).cs})}
    |none=>False
   |_,_=>False
  | .binOp op t x (.const (.slice none 0 0)) _=>
   match fG P t,rN (st.ev G x),op with
   |some _,some len,.eql=>∀b,(b=true→len=0)→K (st.put o.dst (.fz (.b b)))
   |some _,some len,.neq=>∀b,(b=false→len=0)→K (st.put o.dst (.fz (.b b)))
   |_,_,_=>False
  | .call c=>
   match c.callee with
   | .value f=>
    match st.ev G f with
    | .fn g caps=>cS P G g (c.args.toList.map (st.ev G)++caps) st.H st.n fun d H n=>K ({st with H:=H,n:=n}.put o.dst d)
    |_=>False
   | .builtin .append=>
    match c.args.toList,c.argTypes.toList with
    |[x,y],[t,u]=>sk P st (tag0+o.dst.getD 0) o.dst t u (st.ev G x) (st.ev G y) K
    |_,_=>False
   |_=>False
  |_=>False
section
variable {P:Program} {G:Nat→List FD} {N:Nat} {st:St} {a:Act} {w:World} {L:Loc} {F:Nat→Nat→Prop}
theorem YK (v:Value):bw w L F (Ub st.n) (rP v) v:=by
 unfold rP;split
 ·exact pY _
 ·split
  ·rename_i h;simp only[AN,aS,bi]at h;exact lW h
  ·simp[bw]
 ·grind[vZ,dt,bw]
 ·simp only[bw];exact⟨none,rfl,.sl0 none 0⟩
 ·simp only[bw];exact .nilf
 ·simp[bw]
theorem Rel.ev (h:Rel G N st a w L F):∀x,bw w L F (Ub st.n) (st.ev G x) (a.eval x):=by
 intro x;cases x with
 |tmp t=>exact h.fr t
 |const v=>exact YK v
 |global g=>
  simp only[St.ev,Act.eval];split
  ·simp[bw]
  ·rename_i y ys hg;simp only[bw];exact⟨g,0,rfl,fun j hj=>by rw[bE];have h3:=h.ok.glob.1 g j ap;grind⟩
 |func f=>simp_all[St.ev,Act.eval,bw,cA]
theorem Pt {a:Act}{t t':Nat}{v:Value}(h:t<a.tmps.size):(a.put (some t) v).tmps.getD t' undef=if t'=t then v else a.tmps.getD t' undef:=by simp only[Act.put,cu];grind
theorem Rel.put {st':St}{w':World}{L':Loc}{F':Nat→Nat→Prop}(h:Rel G N st a w L F)(hok:OkW G w' L' F' (Ub st'.n) st'.H)(hs:dH st.H w L F (Ub st.n) st'.H w' L' F' (Ub st'.n))
  {dst:Option Tmp}(hd:fI N dst=true){d:D}{v:Value}(hv:bw w' L' F' (Ub st'.n) d v)(hfr:st'.fr=(st.put dst d).fr):
  Rel G N st' (a.put dst v) w' L' F':=by
 have e:=hs.ext h.ok;refine⟨hok,?_,fun t=>?_,?_⟩
 ·cases dst with
  |none=>exact h.size
  |some t=>simp[Act.put,h.size]
 ·rw[hfr];cases dst with
  |none=>exact(h.fr t).ext e
  |some t'=>
   have ht:t'<a.tmps.size:=by rw[h.size];simpa[fI]using hd
   rw[Pt ht];simp only[St.put,upd];split
   ·exact hv
   ·exact(h.fr t).ext e
 ·cases dst with
  |none=>exact h.nd
  |some t=>exact h.nd
theorem Rel.step {st':St}{w':World}{L':Loc}{F':Nat→Nat→Prop}(h:Rel G N st a w L F)(hok:OkW G w' L' F' (Ub st'.n) st'.H)(hs:dH st.H w L F (Ub st.n) st'.H w' L' F' (Ub st'.n))
  (hfr:st'.fr=st.fr):Rel G N st' a w' L' F':=by
 have e:=hs.ext h.ok;exact⟨hok,h.size,fun t=>by rw[hfr];exact(h.fr t).ext e,h.nd⟩
theorem qC {n:Nat}:∀i,Ub n i→Ub (n+1) i:=fun _ h=>Nat.lt_succ_of_lt h
theorem qH {n tag:Nat}:¬Ub n (tag,n):=aC n
theorem qB {n tag:Nat}:Ub (n+1) (tag,n):=gq n
end
section
variable {P:Program} {G:Nat→List FD} {N:Nat} {st:St} {a:Act} {w:World} {L:Loc} {F:Nat→Nat→Prop} {K:St→Prop} {Q:Exit→Act→World→Prop}
theorem rD {s:Sem Value}{v:Value}{w w':World}(hs:s.run P w= .ok v w'):(do pure (.value (←s)):Sem Next).run P w= .ok (.value v) w':=by simp[hs]
theorem vH {o:Oper}(h:Rel G N st a w L F)(hd:fI N o.dst=true){d:D}(hK:K (st.put o.dst d))
  (hr:∃v w' F',(execOp a.eval o).run P w= .ok (.value v) w'∧OkW G w' L F' (Ub st.n) st.H∧bw w' L F' (Ub st.n) d v∧dH st.H w L F (Ub st.n) st.H w' L F' (Ub st.n)):
  o.wp P a w (Sat G N st w L F K) Q:=by
 obtain⟨v,w',F',h1,h2,h3,h4⟩:=hr;unfold Oper.wp;rw[h1];have hH:(st.put o.dst d).H=st.H:=by cases o.dst<;>rfl
 have hn:(st.put o.dst d).n=st.n:=by cases o.dst<;>rfl
 refine⟨_,L,F',hK,h.put (st':=st.put o.dst d) ap ap hd ap rfl,?_⟩;simp_all[oY]
theorem qK {o:Oper}(h:Rel G N st a w L F)(hd:fI N o.dst=true){H':bR}{d:D}{tag:Nat}{ob:O}(hK:K ({st with H:=H'}.new (tag,st.n) ob o.dst d))
  (hr:∃v w' L' F',(execOp a.eval o).run P w= .ok (.value v) w'∧OkW G w' L' F' (Ub (st.n+1)) (cp H' (tag,st.n) (some ob))∧bw w' L' F' (Ub (st.n+1)) d v∧
   dH st.H w L F (Ub st.n) (cp H' (tag,st.n) (some ob)) w' L' F' (Ub (st.n+1))):
  o.wp P a w (Sat G N st w L F K) Q:=by
 obtain⟨v,w',L',F',h1,h2,h3,h4⟩:=hr;unfold Oper.wp;rw[h1];refine⟨_,L',F',hK,h.put (st':={st with H:=H'}.new (tag,st.n) ob o.dst d) h2 h4 hd h3 ?_,h4⟩;cases o.dst<;>rfl
theorem Yd {c:Call}{f:Operand}{o:Oper}(ho:o.op= .call c)(hc:c.callee= .value f){g:FuncId}{caps:List Value}{w:World}(hf:a.eval f= .func (.func g) #[] caps.toArray)(hok:cW P g):
  (execOp a.eval o).run P w= .ok (.enter g ((c.args.toList.map a.eval)++caps).toArray) w:=by
 have: #[]++Array.map a.eval c.args++caps.toArray=(List.map a.eval c.args.toList++caps).toArray:=by cases c.args;simp
 simp only[execOp,ho,resolve,hc,Deferred.ofValue,hf,pure_bind,invoke];rw[hok,this]
theorem td {c:Call}{o:Oper}(ho:o.op= .call c)(hc:c.callee= .builtin .append){x y:Operand}{t u:TypeId}(ha:c.args.toList=[x,y])(ht:c.argTypes.toList=[t,u]){w w':World}{v:Value}
  (h:(Builtin.append_ #[t,u] o.type #[a.eval x,a.eval y]).run P w= .ok v w'):(execOp a.eval o).run P w= .ok (.value v) w':=by
 have e1:c.args= #[x,y]:=by cases hh:c.args;rw[hh]at ha;simp at ha;rw[ha]
 have e2:c.argTypes= #[t,u]:=by cases hh:c.argTypes;rw[hh]at ht;simp at ht;rw[ht]
 simp_all[execOp,resolve,invoke,builtin]
theorem WS {o:Oper}{c:Call}(h:Rel G N st a w L F)(hd:fI N o.dst=true)(ho:o.op= .call c)(hc:c.callee= .builtin .append){x y:Operand}{t u:TypeId}(ha:c.args.toList=[x,y])
  (ht:c.argTypes.toList=[t,u]){tag:Nat}(hs:sk P st tag o.dst t u (st.ev G x) (st.ev G y) K):o.wp P a w (Sat G N st w L F K) Q:=by
 unfold sk at hs;split at hs
 case h_2=>grind
 rename_i te ui hte hui;obtain⟨e,hu,he⟩:=pf hte;split at hs
 ·rename_i n src cc xs hsl hsrc hx;obtain⟨e',he'⟩:=th hsl;have hu':=wA hui he';have hxr:=h.ev x;rw[hx]at hxr;rcases hs with⟨h1,h2,h3,h4,h5,hK⟩|⟨ys,h1,h2,h3,h4,hK⟩|⟨ys,hn,hs,hcc,h2,h3,h4,hK⟩
  ·obtain⟨v,w',L',g1,g2,g3,g4⟩:=WN (ty:=o.type) h.ok hu hu' he hxr (Ab h.ok hsrc h1 (h.ev y)) h2 h3 h4 h5 (id:=(tag,st.n)) (U':=Ub (st.n+1)) qH qC qB;exact qK h hd (H':=st.H) hK (by grind[td])
  ·obtain⟨v,w',F',g1,g2,g3,g4⟩:=XU (ty:=o.type) h.ok hu hu' he hxr (bw.toFD _ _ _ (h.ev y) h1) h2 h3 h4;grind[vH,td]
  ·obtain⟨v,w',L',F',g1,g2,g3,g4⟩:=V' (ty:=o.type) h.ok hu hu' he hxr (hn▸hs▸Ab h.ok hsrc hcc (h.ev y)) h2 h3 h4 (id:=(tag,st.n)) (U':=Ub (st.n+1)) qH qC qB;exact qK h hd (H':=st.H) hK (by grind[td])
 ·rename_i n src cc id es xs hsl hsrc hx;obtain⟨e',he'⟩:=th hsl;have hu':=wA hui he';have hxr:=h.ev x;rw[hx]at hxr;obtain⟨ys,ob,hn,hs,hcc,hob,rfl,h2,h3,h4,h5,hK⟩:=hs;obtain⟨v,w',L',F',g1,g2,g3,g4⟩:=YR (ty:=o.type) h.ok hu hu' he hxr hob (hn▸hs▸Ab h.ok hsrc hcc (h.ev y)) h2 h3 h4 h5 (id:=(tag,st.n)) (U':=Ub (st.n+1)) qH qC qB;grind[qK,td]
 ·rename_i n src cc id es s len hsl hsrc hx;obtain⟨e',he'⟩:=th hsl;have hu':=wA hui he';have hxr:=h.ev x;rw[hx]at hxr;split at hs
  case h_2=>grind
  rename_i ob hob;obtain⟨h1,rfl,h2,h3,h4,h5,hK⟩:=hs;obtain⟨v,w',L',g1,g2,g3,g4⟩:=XT (ty:=o.type) h.ok hu hu' he hxr hob h2 (Ab h.ok hsrc h1 (h.ev y)) h3 h4 h5 (id:=(tag,st.n)) (U':=Ub (st.n+1)) qH qC qB;grind[qK,td]
 grind
theorem W7 {t e:TypeId}(hu:P.underlying t=some (.slice e))(d:Nat)(a:Option Addr)(n c:Nat):(Op.equalIn (d+1) t (.slice a n c) (.slice none 0 0)).run P w= .ok a.isNone w:=by cases a<;>simp[Op.equalIn,bc hu]
theorem NB {t:TypeId}{te:TI}(hte:fG P t=some te){d:D}{v:Value}{len:Nat}(hl:rN d=some len)(hv:bw w L F (Ub st.n) d v)(X Y:Operand):
  ∃b:Bool,(b=true→len=0)∧(do eqGuard .eql t X Y v (.slice none 0 0);binOp .eql t v (.slice none 0 0):Sem Value).run P w= .ok (.bool b) w∧
   (do eqGuard .neq t X Y v (.slice none 0 0);binOp .neq t v (.slice none 0 0):Sem Value).run P w= .ok (.bool (!b)) w:=by
 obtain⟨e,hu,_⟩:=pf hte;have key:∀(a:Option Addr) (n cap:Nat),v= .slice a n cap→(a=none→n=0)→n=len→∃b:Bool,(b=true→len=0)∧(do eqGuard .eql t X Y v (.slice none 0 0);binOp .eql t v (.slice none 0 0):Sem Value).run P w= .ok (.bool b) w∧
   (do eqGuard .neq t X Y v (.slice none 0 0);binOp .neq t v (.slice none 0 0):Sem Value).run P w= .ok (.bool (!b)) w:=by
  rintro a n cap rfl h1 rfl;have hq:(Op.equal t (.slice a n cap) (.slice none 0 0)).run P w= .ok a.isNone w:=W7 hu 9999 a n cap;refine⟨a.isNone,fun hb=>h1 aq,?_,?_⟩
  ·simp_all[eqGuard_at_slice,binOp]
  ·simp_all[eqGuard_at_slice,binOp]
 unfold rN at hl;split at hl<;>simp only[aL,reduceCtorEq]at hl<;>subst hl
 ·simp only[bw]at hv;obtain⟨a,cap,rfl,h1,h2,h3⟩:=hv.sl_inv;grind[Nat.eq_zero_or_pos]
 ·simp only[bw]at hv;obtain⟨a,rfl,hv⟩:=hv;obtain⟨a',cap,he,h1,h2,h3⟩:=hv.sl_inv;grind[Nat.eq_zero_or_pos]
 ·simp only[bw]at hv;obtain⟨_,hv,a,cap0,rfl,_⟩:=hv;obtain⟨a',cap,he,h1,h2,h3⟩:=hv.sl_inv;grind[Nat.eq_zero_or_pos]
 ·simp only[bw]at hv;obtain⟨_,a,cap,rfl,h1,h2,h3⟩:=hv;refine key a _ cap rfl (fun ha=>?_) rfl;grind
theorem zu {o:Oper}{tag0:Nat}(h:Rel G N st a w L F)(hs:jN P G N tag0 o st K):o.wp P a w (Sat G N st w L F K) Q:=by
 unfold jN at hs;split at hs
 ·rename_i d c hev;obtain⟨hd,hc,hK⟩:=hs;obtain⟨v,h1,h2⟩:=Pj hev hc h.ok h.ev;exact vH h hd hK ⟨v,w,F,h1,h.ok,h2,dH.refl _ _ _ _ _⟩
 ·obtain⟨hd,hs⟩:=hs;split at hs
  ·
   rename_i e heq;split at hs
   case h_2=>grind
   rename_i ti hti;obtain⟨v,w',L',g1,g2,g3,g4⟩:=Ye h.ok hti (id:=(tag0+o.dst.getD 0,st.n)) (U':=Ub (st.n+1)) qH qC qB (.tuple #[]);exact qK h hd (H':=st.H) hs (by grind[execOp,rD])
  ·
   rename_i e x heq;obtain⟨hk,hK⟩:=hs;obtain⟨p,w',L',g1,g2,g3,g4⟩:=Zk (P:=P) h.ok (t:=e) (h.ev x) (zh hk) (id:=(tag0+o.dst.getD 0,st.n)) (U':=Ub (st.n+1)) qH qC qB;refine qK h hd (H':=st.H) hK ⟨_,w',L',F,?_,g2,g3,g4⟩;simp_all[execOp,Instr.box]
  ·
   rename_i t l c heq;split at hs
   case h_2=>grind
   rename_i te k n k' m hte hl hc;obtain⟨rfl,h0,h1,h2,hK⟩:=hs;have r1:=h.ev l;have r2:=h.ev c;rw[hl]at r1;rw[hc]at r2;obtain⟨v,w',L',g1,g2,g3,g4⟩:=Rv (P:=P) (k:=k) (k':=k') h.ok hte h0 h1 h2 (id:=(tag0+o.dst.getD 0,st.n)) (U':=Ub (st.n+1)) qH qC qB;refine qK h hd (H':=st.H) hK ⟨_,w',L',F,?_,g2,g3,g4⟩;grind[execOp,mH,rD]
  ·
   rename_i t n ps heq;rcases hs with hs|hs
   ·split at hs
    case h_2=>grind
    rename_i te xs hte hxs;obtain⟨h1,h2,h3,h4,hK⟩:=hs;obtain⟨v,w',F',g1,g2,g3,g4⟩:=V5 h.ok hte h1 hxs h2 h3 h4 h.ev;grind[vH,execOp,rD]
   ·split at hs
    case h_2=>grind
    rename_i te hte;obtain⟨h1,h2,h3,h4,hK⟩:=hs;obtain⟨v,w',L',g1,g2,g3,g4⟩:=WP h.ok hte h1 h2 h3 h4 h.ev (id:=(tag0+o.dst.getD 0,st.n)) (U':=Ub (st.n+1)) qH qC qB;exact qK h hd (H':=st.H) hK (by grind[execOp,rD])
  ·
   rename_i t p x heq;split at hs
   case h_2=>grind
   rename_i ti id k hti hp;split at hs
   case h_2=>grind
   rename_i ob hob;obtain⟨hdst,h1,h2,h3,h4,h5,hK⟩:=hs;have rp:=h.ev p;rw[hp]at rp;simp only[bw]at rp;obtain⟨_,_,rp⟩:=rp;obtain⟨w',g1,g2,g3⟩:=ZH (P:=P) h.ok hob h1 hti (h.ev x) h2 h3 h4 h5;unfold Oper.wp;have:(execOp a.eval o).run P w= .ok .skip w':=by simp only[execOp,heq,rp];simp[g1]
   rw[this,Oper.upon_skip,hdst];exact⟨_,L,F,hK,h.step g2 g3 rfl,g3⟩
  ·
   rename_i op t x _ heq;split at hs
   case h_3=>grind
   ·rename_i te len hte hl;obtain⟨b,hb,g1,g2⟩:=NB (P:=P) hte hl (h.ev x) x (.const (.slice none 0 0));exact vH h hd (hs b hb) ⟨_,w,F,by simp only[execOp,heq];exact rD g1,h.ok,pY _,dH.refl _ _ _ _ _⟩
   ·rename_i te len hte hl;obtain⟨b,hb,g1,g2⟩:=NB (P:=P) hte hl (h.ev x) x (.const (.slice none 0 0));exact vH h hd (hs (!b) (fun hh=>hb (by simpa using hh))) ⟨_,w,F,by simp only[execOp,heq];exact rD g2,h.ok,pY _,dH.refl _ _ _ _ _⟩
  ·
   rename_i c heq;split at hs
   ·rename_i f hcal;split at hs
    case h_2=>grind
    rename_i g caps hf;obtain⟨hok,hcall⟩:=hs;have rf:=h.ev f;rw[hf]at rf;simp only[bw]at rf;obtain⟨cv,rf,hcaps⟩:=rf;unfold Oper.wp;rw[Yd heq hcal rf hok,Oper.upon_enter];have hargs:cA w L F (Ub st.n) (c.args.toList.map (st.ev G)++caps) (c.args.toList.map a.eval++cv):=by
     have h1:=(cA.iff _ _).1 (cA.map h.ev c.args.toList);have h2:=(cA.iff _ _).1 hcaps;rw[cA.iff];refine⟨ap,fun j hj=>?_⟩;by_cases hj1:j<(c.args.toList.map (st.ev G)).length
     ·grind
     ·grind
    refine(hcall w L F _ h.ok hargs).mono fun e w' he=>?_;obtain⟨v,d,H',n',L',F',rfl,hK,g1,g2,g3⟩:=he;have hH:({st with H:=H',n:=n'}:St).put o.dst d={st with fr:=(({st with H:=H',n:=n'}:St).put o.dst d).fr,H:=H',n:=n'}:=by cases o.dst<;>rfl
    refine⟨_,L',F',hK,h.put (st':=({st with H:=H',n:=n'}:St).put o.dst d) ap ap hd (by rw[hH];exact g2) (by cases o.dst<;>rfl),?_⟩;grind[oY]
   all_goals grind[WS]
  grind
end
end Go.Abs
