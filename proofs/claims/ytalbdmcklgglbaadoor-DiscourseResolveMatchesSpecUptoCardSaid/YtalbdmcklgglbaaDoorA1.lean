/- a framework of my own: an abstract walk over the machine, part 1; no conditions -/
import Derived.Calls
import Derived.Orders
import Derived.Laws.World
import Derived.Laws.Cells
import Derived.Laws.Slices
import Derived.Laws.Append
import Derived.Laws.StructEq
import Derived.Laws.Strings
import Derived.Laws.Entries
set_option linter.unusedSimpArgs false
namespace Go.Abs
open Go
inductive FD where
 |b (x:Bool)
 |i (k:IntKind) (n:Int)
 |s (x:List UInt8)
 |sl (xs:List FD)
 |agg (xs:List FD)
 |nilf
 deriving Inhabited
def FD.cells:FD→List FD
 | .agg xs=>xs
 |x=>[x]
abbrev Id:=Nat×Nat
structure LP where
 b:Nat
 o:Nat
 v:Bool
abbrev Loc:=Id→LP
inductive D where
 |junk
 |fz (x:FD)
 |full (xs:List FD)
 |rp (xs:List FD)
 |ptr (id:Id) (off:Nat)
 |arr (id:Id) (es s len:Nat)
 |ow (id:Id) (es:Nat) (xs:List FD)
 |fn (f:FuncId) (caps:List D)
 |agg (xs:List D)
 |tup (xs:List D)
 deriving Inhabited
structure O where
 cells:List D
 box:Bool
 virt:Bool
abbrev zas:=Id→Option O
def zaZ:Nat:=2^48
def World.at (w:World)(b k:Nat):Option Value:=w.cell? ⟨b,k,none⟩
inductive zbn (w:World)(F:Nat→Nat→Prop):Value→FD→Prop
 |b (x):zbn w F (.bool x) (.b x)
 |i (k n):k.min≤n→n≤k.max→zbn w F (.int k n) (.i k n)
 |s (x:ByteArray):x.size≤zaZ→zbn w F (.string x) (.s x.data.toList)
 |nilf:zbn w F .nilFunc .nilf
 |sl0 (a cap):zbn w F (.slice a 0 cap) (.sl [])
 |sl (b off cap es) (xs:List FD) (vs:Nat→Nat→Value):xs.length≤cap→xs.length≤zaZ→
   (∀k,k<xs.length*es→F b (off+k))→
   (∀i,i<xs.length→(xs.getD i .nilf).cells.length=es)→
   (∀i j,i<xs.length→j<es→World.at w b (off+i*es+j)=some (vs i j))→
   (∀i j,i<xs.length→j<es→zbn w F (vs i j) ((xs.getD i .nilf).cells.getD j .nilf))→
   zbn w F (.slice (some ⟨b,off,none⟩) xs.length cap) (.sl xs)
 |agg (vs:List Value) (xs:List FD):vs.length=xs.length→
   (∀j,j<xs.length→zbn w F (vs.getD j undef) (xs.getD j .nilf))→zbn w F (.agg vs.toArray) (.agg xs)
theorem zpf {n es i j:Nat}(hi:i<n)(hj:j<es):i*es+j<n*es:=by
 calc i*es+j<i*es+es:=by omega
  _=(i+1)*es:=by rw[Nat.succ_mul]
  _≤n*es:=Nat.mul_le_mul_right _ hi
theorem zbn.mono {w w':World}{F F':Nat→Nat→Prop}{v x}(h:zbn w F v x)(hb:∀b k,F b k→World.at w' b k=World.at w b k)(hF:∀b k,F b k→F' b k):
  zbn w' F' v x:=by
 induction h with
 |b x=>exact .b x
 |i k n h1 h2=>exact .i k n h1 h2
 |s x h=>exact .s x h
 |nilf=>exact .nilf
 |sl0 a cap=>exact .sl0 a cap
 |sl b off cap es xs vs h1 h2 h3 h5 h6 _ ih=>exact .sl b off cap es xs vs h1 h2 (fun k hk=>hF _ _ (h3 k hk)) h5 (fun i j hi hj=>(hb _ _ (by rw[Nat.add_assoc];exact h3 _ (zpf hi hj))).trans (h6 i j hi hj)) ih
 |agg vs xs h1 _ ih=>exact .agg vs xs h1 ih
mutual
def zak (w:World)(L:Loc)(F:Nat→Nat→Prop)(U:Id→Prop):D→Value→Prop
 | .junk,_=>True
 | .fz x,v=>zbn w F v x
 | .full xs,v=>∃a,v= .slice a xs.length xs.length∧zbn w F v (.sl xs)
 | .rp xs,v=>∃b off,v= .pointer (some ⟨b,off,none⟩)∧
   ∀j,j<xs.length→F b (off+j)∧∃u,World.at w b (off+j)=some u∧zbn w F u (xs.getD j .nilf)
 | .ptr id k,v=>U id∧(L id).1<w.heap.size∧v= .pointer (some ⟨(L id).1,(L id).2+k,none⟩)
 | .arr id es s len,v=>U id∧∃a cap,v= .slice a len cap∧len≤cap∧len≤zaZ∧
   (cap=0∨(a=some ⟨(L id).1,(L id).2+s,none⟩∧(L id).3=false∧(L id).1<w.heap.size∧
    ∀cs T fr,w.heap[(L id).1]?=some (.cells cs T fr)→(L id).2+s+cap*es≤cs.size))
 | .ow id es xs,v=>U id∧zbn w F v (.sl xs)∧∃a cap,v= .slice a xs.length cap∧
   (cap=xs.length∨∃b off,a=some ⟨b,off,none⟩∧L id=⟨b,off+xs.length*es,false⟩∧b<w.heap.size∧
    ∀cs T fr,w.heap[b]?=some (.cells cs T fr)→off+cap*es≤cs.size)
 | .fn f caps,v=>∃vs:List Value,v= .func (.func f) #[] vs.toArray∧zap w L F U caps vs
 | .agg ds,v=>∃vs:List Value,v= .agg vs.toArray∧zap w L F U ds vs
 | .tup ds,v=>∃vs:List Value,v= .tuple vs.toArray∧zap w L F U ds vs
def zap (w:World)(L:Loc)(F:Nat→Nat→Prop)(U:Id→Prop):List D→List Value→Prop
 |[],[]=>True
 |d::ds,v::vs=>zak w L F U d v∧zap w L F U ds vs
 |[],_::_=>False
 |_::_,[]=>False
end
structure Ext (w:World)(L:Loc)(F:Nat→Nat→Prop)(U:Id→Prop)(w':World)(L':Loc)(F':Nat→Nat→Prop)(U':Id→Prop):Prop where
 u:∀id,U id→U' id
 l:∀id,U id→L' id=L id
 f:∀b k,F b k→F' b k
 fk:∀b k,F b k→World.at w' b k=World.at w b k
 size:w.heap.size≤w'.heap.size
 shape:∀b cs' T' fr',b<w.heap.size→w'.heap[b]?=some (.cells cs' T' fr')→∃cs T fr,w.heap[b]?=some (.cells cs T fr)∧cs.size≤cs'.size
mutual
theorem zak.ext {w L F U w' L' F' U'}(e:Ext w L F U w' L' F' U'):∀(d:D) (v:Value),zak w L F U d v→zak w' L' F' U' d v
 | .junk,_,_=>trivial
 | .fz x,v,h=>zbn.mono (by simpa only[zak]using h) e.fk e.f
 | .full xs,v,h=>by
  simp only[zak]at h ⊢
  obtain⟨a,h1,h2⟩:=h
  exact⟨a,h1,h2.mono e.fk e.f⟩
 | .rp xs,v,h=>by
  simp only[zak]at h ⊢
  obtain⟨b,off,h1,h4⟩:=h
  exact⟨b,off,h1,fun j hj=>let⟨f,u,a,b⟩:=h4 j hj;⟨e.f _ _ f,u,(e.fk _ _ f).trans a,b.mono e.fk e.f⟩⟩
 | .ptr id k,v,h=>by
  simp only[zak]at h ⊢
  obtain⟨h1,h2,h3⟩:=h
  rw[e.l _ h1]
  exact⟨e.u _ h1,Nat.lt_of_lt_of_le h2 e.size,h3⟩
 | .arr id es s len,v,h=>by
  simp only[zak]at h ⊢
  obtain⟨h1,a,cap,h2,h3,h4,h5⟩:=h
  rw[e.l _ h1]
  refine⟨e.u _ h1,a,cap,h2,h3,h4,?_⟩
  rcases h5 with h5|⟨h5,h8,h6,h7⟩
  ·exact .inl h5
  ·refine .inr ⟨h5,h8,Nat.lt_of_lt_of_le h6 e.size,fun cs' T' fr' hc=>?_⟩
   obtain⟨cs,T,fr,hc',hle⟩:=e.shape _ _ _ _ h6 hc
   exact Nat.le_trans (h7 _ _ _ hc') hle
 | .ow id es xs,v,h=>by
  simp only[zak]at h ⊢
  obtain⟨h1,h2,a,cap,h3,h4⟩:=h
  refine⟨e.u _ h1,h2.mono e.fk e.f,a,cap,h3,?_⟩
  rcases h4 with h4|⟨b,off,g1,g2,g3,g4⟩
  ·exact .inl h4
  ·refine .inr ⟨b,off,g1,by rw[e.l _ h1];exact g2,Nat.lt_of_lt_of_le g3 e.size,fun cs' T' fr' hc=>?_⟩
   obtain⟨cs,T,fr,hc',hle⟩:=e.shape _ _ _ _ g3 hc
   exact Nat.le_trans (g4 _ _ _ hc') hle
 | .fn f caps,v,h=>by
  simp only[zak]at h ⊢
  obtain⟨vs,h1,h2⟩:=h
  exact⟨vs,h1,zap.ext e _ _ h2⟩
 | .agg ds,v,h=>by
  simp only[zak]at h ⊢
  obtain⟨vs,h1,h2⟩:=h
  exact⟨vs,h1,zap.ext e _ _ h2⟩
 | .tup ds,v,h=>by
  simp only[zak]at h ⊢
  obtain⟨vs,h1,h2⟩:=h
  exact⟨vs,h1,zap.ext e _ _ h2⟩
theorem zap.ext {w L F U w' L' F' U'}(e:Ext w L F U w' L' F' U'):∀(ds:List D) (vs:List Value),zap w L F U ds vs→zap w' L' F' U' ds vs
 |[],[],_=>trivial
 |d::ds,v::vs,h=>by
  simp only[zap]at h ⊢
  exact⟨zak.ext e d v h.1,zap.ext e ds vs h.2⟩
 |[],_::_,h=>h.elim
 |_::_,[],h=>h.elim
end
def zb2 (w:World)(L:Loc)(F:Nat→Nat→Prop)(U:Id→Prop)(id:Id)(o:O):Prop:=
 if(L id).3=true then o.cells=[]∧o.virt=true else
  (∀k,(L id).2≤k→¬F (L id).1 k)∧∃cs T,w.heap[(L id).1]?=some (.cells cs T (0,0))∧(L id).2+o.cells.length≤cs.size∧
   ∀j,j<o.cells.length→∃v,cs[(L id).2+j]?=some v∧zak w L F U (o.cells.getD j .junk) v
def zik (G:Nat→List FD)(w:World)(F:Nat→Nat→Prop):Prop:=
 (∀g j,j<(G g).length→F g j∧∃v,World.at w g j=some v∧zbn w F v ((G g).getD j .nilf))∧∀g,G g≠[]→F g (G g).length∧World.at w g (G g).length=none
structure OkW (G:Nat→List FD)(w:World)(L:Loc)(F:Nat→Nat→Prop)(U:Id→Prop)(H:zas):Prop where
 fb:∀b k,F b k→b<w.heap.size
 live:∀id o,H id=some o→U id∧zb2 w L F U id o
 inj:∀id id' o o',H id=some o→H id'=some o'→(L id).3=false→(L id').3=false→(L id).1=(L id').1→id=id'
 glob:zik G w F
def Blk (H:zas)(L:Loc)(b:Nat):Prop:=∃id o,H id=some o∧(L id).3=false∧(L id).1=b
def Own (H:zas)(L:Loc)(b k:Nat):Prop:=∃id o,H id=some o∧(L id).3=false∧(L id).1=b∧(L id).2≤k
theorem Own.blk {H L b k}(h:Own H L b k):Blk H L b:=let⟨id,o,h1,h2,h3,_⟩:=h;⟨id,o,h1,h2,h3⟩
theorem Blk.own {H L b}(h:Blk H L b):∃k,Own H L b k:=let⟨id,o,h1,h2,h3⟩:=h;⟨_,id,o,h1,h2,h3,Nat.le_refl _⟩
structure zbL (H:zas)(w:World)(L:Loc)(F:Nat→Nat→Prop)(U:Id→Prop)(H':zas)(w':World)(L':Loc)(F':Nat→Nat→Prop)(U':Id→Prop):Prop where
 u:∀id,U id→U' id
 l:∀id,U id→L' id=L id
 f:∀b k,F b k→F' b k
 size:w.heap.size≤w'.heap.size
 keep:∀b,b<w.heap.size→¬Blk H L b→w'.heap[b]?=w.heap[b]?
 keepc:∀b k,b<w.heap.size→¬Own H L b k→World.at w' b k=World.at w b k
 shape:∀b cs' T' fr',b<w.heap.size→w'.heap[b]?=some (.cells cs' T' fr')→∃cs T fr,w.heap[b]?=some (.cells cs T fr)∧cs.size≤cs'.size
 fnew:∀b k,F' b k→F b k∨w.heap.size≤b∨Own H L b k
 bnew:∀b k,Own H' L' b k→w.heap.size≤b∨Own H L b k
 os:w'.os=w.os
 tape:w'.tape=w.tape
 output:w'.output=w.output
 drawn:w.drawn≤w'.drawn
theorem OkW.not_own {G w L F U H}(h:OkW G w L F U H){b k}(hF:F b k):¬Own H L b k:=by
 rintro⟨id,o,h1,h2,h3,h4⟩
 have:=(h.live id o h1).2
 simp only[zb2,h2]at this
 exact this.1 k h4 (h3▸hF)
theorem zbL.ext {G H w L F U H' w' L' F' U'}(s:zbL H w L F U H' w' L' F' U')(h:OkW G w L F U H):Ext w L F U w' L' F' U':=
 ⟨s.u,s.l,s.f,fun b k hb=>s.keepc b k (h.fb b k hb) (h.not_own hb),s.size,s.shape⟩
theorem zbL.refl (H w L F U):zbL H w L F U H w L F U:=
  ⟨fun _ h=>h,fun _ _=>rfl,fun _ _ h=>h,Nat.le_refl _,fun _ _ _=>rfl,fun _ _ _ _=>rfl,fun _ cs T fr _ h=>⟨cs,T,fr,h,Nat.le_refl _⟩,
   fun _ _ h=> .inl h,fun _ _ h=> .inr h,rfl,rfl,rfl,Nat.le_refl _⟩
theorem zbL.bnewb {H w L F U H' w' L' F' U'}(s:zbL H w L F U H' w' L' F' U'){b}(h:Blk H' L' b):w.heap.size≤b∨Blk H L b:=by
 obtain⟨k,hk⟩:=h.own
 exact(s.bnew b k hk).imp_right Own.blk
theorem zbL.trans {H w L F U H' w' L' F' U' H'' w'' L'' F'' U''}(s:zbL H w L F U H' w' L' F' U')(t:zbL H' w' L' F' U' H'' w'' L'' F'' U''):
  zbL H w L F U H'' w'' L'' F'' U'':=by
 refine⟨fun id h=>t.u _ (s.u _ h),fun id h=>(t.l _ (s.u _ h)).trans (s.l _ h),fun b k h=>t.f _ _ (s.f _ _ h),Nat.le_trans s.size t.size,?_,?_,?_,?_,?_,
  t.os.trans s.os,t.tape.trans s.tape,t.output.trans s.output,Nat.le_trans s.drawn t.drawn⟩
 ·intro b hb hn
  refine(t.keep b (Nat.lt_of_lt_of_le hb s.size) ?_).trans (s.keep b hb hn)
  intro hB
  rcases s.bnewb hB with h|h
  ·omega
  ·exact hn h
 ·intro b k hb hn
  refine(t.keepc b k (Nat.lt_of_lt_of_le hb s.size) ?_).trans (s.keepc b k hb hn)
  intro hB
  rcases s.bnew b k hB with h|h
  ·omega
  ·exact hn h
 ·intro b cs' T' fr' hb hc
  obtain⟨cs,T,fr,h1,h2⟩:=t.shape b _ _ _ (Nat.lt_of_lt_of_le hb s.size) hc
  obtain⟨cs0,T0,fr0,h3,h4⟩:=s.shape b _ _ _ hb h1
  exact⟨cs0,T0,fr0,h3,Nat.le_trans h4 h2⟩
 ·intro b k hb
  rcases t.fnew b k hb with h|h|h
  ·exact s.fnew b k h
  ·exact .inr (.inl (Nat.le_trans s.size h))
  ·rcases s.bnew b k h with h|h
   ·exact .inr (.inl h)
   ·exact .inr (.inr h)
 ·intro b k hb
  rcases t.bnew b k hb with h|h
  ·exact .inl (Nat.le_trans s.size h)
  ·exact s.bnew b k h
end Go.Abs
namespace Go.Abs
open Go
inductive Und where
 |bool|int (k:IntKind)|str|slice (e:TypeId)|struct (fs:List (Nat×TypeId))|func|ptr|other
structure TI where
 size:Nat
 bytes:Nat
 zero:List D
 und:Und
 agg:Bool
 eqok:Bool
 fund:List Und
def zdJ:TypeDesc→Und
 | .bool=> .bool
 | .int k=> .int k
 | .string=> .str
 | .slice e=> .slice e
 | .struct fs=> .struct (fs.toList.map fun f=>(f.offset,f.type))
 | .func _ _ _=> .func
 | .pointer _=> .ptr
 |_=> .other
def zDt:TypeDesc→Bool
 | .struct _| .array _ _=>true
 |_=>false
def znc:Value→D
 | .bool b=> .fz (.b b)
 | .int k n=>if n=0 then .fz (.i k 0)else .junk
 | .string s=>if s.size=0 then .fz (.s [])else .junk
 | .slice none 0 0=> .full []
 | .nilFunc=> .fz .nilf
 |_=> .junk
def zpq (P:Program)(t:TypeId):Bool:=
 match P.underlying t with
 |some .bool|some (.int _)|some .string=>true
 |_=>false
def zvI (P:Program)(t:TypeId):TypeDesc→Bool
 | .struct fs=> !P.eqGuardType P.depth t&& !P.stoodInHeld t&&
   (fs.toList.zipIdx.all fun(f,i)=>f.name != "_" &&f.offset==i&&zpq P f.type)
 |_=>false
def zuO (P:Program):TypeDesc→List Und
 | .struct fs=>fs.toList.map fun f=>((P.underlying f.type).map zdJ).getD .other
 |_=>[]
def zaq (P:Program)(t:TypeId):Option TI:=
 match P.info? t with
 |none=>none
 |some i=>
  match i.zero,P.underlying t with
  |some z,some u=>if z.cells.size=i.size then some {size:=i.size,bytes:=i.bytes,zero:=z.cells.toList.map znc,und:=zdJ u,agg:=zDt u,eqok:=zvI P t u,fund:=zuO P u}else none
  |_,_=>none
theorem zaA {P:Program}{t:TypeId}{ti:TI}(h:zaq P t=some ti):∃i z u,P.info? t=some i∧i.zero=some z∧P.underlying t=some u∧
  ti={size:=i.size,bytes:=i.bytes,zero:=z.cells.toList.map znc,und:=zdJ u,agg:=zDt u,eqok:=zvI P t u,fund:=zuO P u}:=by
 unfold zaq at h
 split at h
 ·cases h
 ·rename_i i hi
  split at h
  ·rename_i z u hz hu
   split at h
   ·exact⟨i,z,u,hi,hz,hu,(Option.some.inj h).symm⟩
   ·cases h
  ·cases h
theorem zeN {P:Program}{t:TypeId}{ti:TI}(h:zaq P t=some ti):ti.zero.length=ti.size:=by
 unfold zaq at h
 split at h
 ·cases h
 ·split at h
  ·split at h
   ·rename_i hz
    obtain rfl:=(Option.some.inj h).symm
    simpa using hz
   ·cases h
  ·cases h
theorem zl1 {u:TypeDesc}{e}(h:zdJ u= .slice e):u= .slice e:=by cases u<;>simp_all [zdJ]
theorem zsu {u:TypeDesc}(h:zdJ u= .str):u= .string:=by cases u<;>simp_all [zdJ]
theorem zui {u:TypeDesc}(h:zdJ u= .bool):u= .bool:=by cases u<;>simp_all [zdJ]
theorem zwV {u:TypeDesc}{k}(h:zdJ u= .int k):u= .int k:=by cases u<;>simp_all [zdJ]
theorem zge {u:TypeDesc}{l}(h:zdJ u= .struct l):∃fs,u= .struct fs∧l=fs.toList.map fun f=>(f.offset,f.type):=by
 cases u<;>simp_all [zdJ]
section
variable {P:Program} {w:World} {t:TypeId} {ti:TI}
theorem zaw (h:zaq P t=some ti):(sizeOf t).run P w= .ok ti.size w:=by
 obtain⟨i,z,u,h1,_,_,rfl⟩:=zaA h
 simp[sizeOf,typeInfo,h1]
theorem zcG (h:zaq P t=some ti):(isAgg t).run P w= .ok ti.agg w:=by
 obtain⟨i,z,u,h1,_,h3,rfl⟩:=zaA h
 simp only[isAgg,underlying,Sem.run_bind,run_program,Result.andThen_ok,h3,Sem.run_pure]
 cases u<;>rfl
end
theorem zfY {w:World}{b o:Nat}{cs T fr}(h:w.heap[b]?=some (.cells cs T fr)):w.cell? ⟨b,o,none⟩=cs[o]?:=by
 simp[World.cell?,h]
theorem zg9 {w:World}{b o:Nat}{cs T fr}(h:w.heap[b]?=some (.cells cs T fr)):World.at w b o=cs[o]?:=zfY h
theorem zjh {w w':World}{b:Nat}(h:w'.heap[b]?=w.heap[b]?)(k:Nat):World.at w' b k=World.at w b k:=by
 unfold World.at World.cell?;rw[h]
theorem zby (b o n:Nat):Addr.add ⟨b,o,none⟩ n=⟨b,o+n,none⟩:=by
 unfold Addr.add;split<;>simp_all
theorem zhT {P:Program}{w:World}{t:TypeId}{ti:TI}(ht:zaq P t=some ti){b off:Nat}(f:Nat→Value)
  (hc:∀j,j<ti.size→w.cell? ⟨b,off+j,none⟩=some (f j))(hs:ti.agg=false→ti.size=1):
  (loadVar t ⟨b,off,none⟩).run P w= .ok (if ti.agg then .agg ((List.range ti.size).map f).toArray else f 0) w:=by
 simp only[loadVar,Sem.run_bind,zcG ht,Result.andThen_ok,Sem.run_ite]
 split
 ·rename_i h
  simp only[zaw ht,Result.andThen_ok]
  rw[run_loadCells w _ ti.size f (fun j hj=>by rw[zby];exact hc j hj)]
  simp
 ·rename_i h
  have:=hc 0 (by rw[hs (by simpa using h)];omega)
  simp at this
  simp[this]
section
variable {w:World} {F:Nat→Nat→Prop} {v:Value}
theorem zbn.int_inv {k n}(h:zbn w F v (.i k n)):v= .int k n∧k.min≤n∧n≤k.max:=by cases h;exact⟨rfl, ‹_›, ‹_›⟩
theorem zbn.b_inv {x}(h:zbn w F v (.b x)):v= .bool x:=by cases h;rfl
theorem zbn.s_inv {l}(h:zbn w F v (.s l)):∃x:ByteArray,v= .string x∧x.data.toList=l∧x.size=l.length∧l.length≤zaZ:=by
 cases h with
 |s x hx=>
  have hs:x.size=x.data.toList.length:=by rw[Array.length_toList];rfl
  exact⟨x,rfl,rfl,hs,hs▸hx⟩
theorem zbn.agg_inv {xs}(h:zbn w F v (.agg xs)):∃vs:List Value,v= .agg vs.toArray∧vs.length=xs.length∧
  ∀j,j<xs.length→zbn w F (vs.getD j undef) (xs.getD j .nilf):=by
 cases h with
 |agg vs xs h1 h2=>exact⟨vs,rfl,h1,h2⟩
theorem zbn.sl_inv {xs}(h:zbn w F v (.sl xs)):∃a cap,v= .slice a xs.length cap∧xs.length≤cap∧xs.length≤zaZ∧
  (0<xs.length→∃b off es,∃vs:Nat→Nat→Value,a=some ⟨b,off,none⟩∧(∀k,k<xs.length*es→F b (off+k))∧
   (∀i,i<xs.length→(xs.getD i .nilf).cells.length=es)∧(∀i j,i<xs.length→j<es→World.at w b (off+i*es+j)=some (vs i j))∧
   (∀i j,i<xs.length→j<es→zbn w F (vs i j) ((xs.getD i .nilf).cells.getD j .nilf))):=by
 cases h with
 |sl0 a cap=>exact⟨a,cap,rfl,by simp,by simp[zaZ],by simp⟩
 |sl b off cap es xs vs h1 h2 h3 h5 h6 h7=>exact⟨_,cap,rfl,h1,h2,fun _=>⟨b,off,es,vs,rfl,h3,h5,h6,h7⟩⟩
end
theorem zbn.sl_mk {w:World}{F:Nat→Nat→Prop}{xs:List FD}{a cap}(h1:xs.length≤cap)(h2:xs.length≤zaZ)
  (h:0<xs.length→∃b off es,∃vs:Nat→Nat→Value,a=some ⟨b,off,none⟩∧(∀k,k<xs.length*es→F b (off+k))∧
   (∀i,i<xs.length→(xs.getD i .nilf).cells.length=es)∧(∀i j,i<xs.length→j<es→World.at w b (off+i*es+j)=some (vs i j))∧
   (∀i j,i<xs.length→j<es→zbn w F (vs i j) ((xs.getD i .nilf).cells.getD j .nilf))):zbn w F (.slice a xs.length cap) (.sl xs):=by
 cases xs with
 |nil=>exact .sl0 a cap
 |cons x xs=>
  obtain⟨b,off,es,vs,rfl,h3,h5,h6,h7⟩:=h (by simp)
  exact .sl b off cap es _ vs h1 h2 h3 h5 h6 h7
theorem zap.iff {w L F U}:∀(ds:List D) (vs:List Value),zap w L F U ds vs↔vs.length=ds.length∧∀j,j<ds.length→zak w L F U (ds.getD j .junk) (vs.getD j undef)
 |[],[]=>by simp[zap]
 |[],_::_=>by simp[zap]
 |_::_,[]=>by simp[zap]
 |d::ds,v::vs=>by
  simp only[zap,zap.iff ds vs,List.length_cons,Nat.add_right_cancel_iff]
  constructor
  ·rintro⟨h1,h2,h3⟩
   refine⟨h2,fun j hj=>?_⟩
   cases j with
   |zero=>simpa using h1
   |succ j=>simpa using h3 j (by omega)
  ·rintro⟨h2,h3⟩
   exact⟨by simpa using h3 0 (by omega),h2,fun j hj=>by simpa using h3 (j+1) (by omega)⟩
theorem zbn.not_agg {w F v x}(h:zbn w F v x)(hx:∀xs,x≠ .agg xs):v.cells= #[v]:=by
 cases h<;>first|rfl|exact absurd rfl (hx _)
def D.cs:D→List D
 | .fz x=>x.cells.map .fz
 | .agg ds=>ds
 |d=>[d]
theorem zb0 (xs:List FD)(j:Nat)(h:j<xs.length):(xs.map D.fz).getD j .junk= .fz (xs.getD j .nilf):=by
 simp[List.getD,h]
theorem zak.cs {w L F U}{d:D}{v:Value}(h:zak w L F U d v)(hj:d≠ .junk):zap w L F U d.cs v.cells.toList:=by
 cases d with
 |junk=>exact absurd rfl hj
 |fz x=>
  simp only[zak]at h
  by_cases hx:∃xs,x= .agg xs
  ·obtain⟨xs,rfl⟩:=hx
   obtain⟨vs,rfl,h1,h2⟩:=h.agg_inv
   simp only[D.cs,FD.cells,Value.cells]
   rw[zap.iff]
   refine⟨by simp[h1],fun j hj=>?_⟩
   have hj':j<xs.length:=by simpa using hj
   rw[zb0 _ _ hj']
   simpa only[zak]using h2 j hj'
  ·have hx':∀xs,x≠ .agg xs:=fun xs e=>hx ⟨xs,e⟩
   rw[h.not_agg hx']
   have:D.cs (.fz x)=[.fz x]:=by cases x<;>first|rfl|exact absurd rfl (hx' _)
   rw[this]
   simp only[zap,zak]
   exact⟨h,trivial⟩
 |agg ds=>
  simp only[zak]at h
  obtain⟨vs,rfl,h⟩:=h
  simpa[D.cs,Value.cells]using h
 |full xs=>
  have h':=h
  simp only[zak]at h'
  obtain⟨a,rfl,_⟩:=h'
  simp only[D.cs,Value.cells]
  exact⟨h,trivial⟩
 |rp xs=>
  have h':=h
  simp only[zak]at h'
  obtain⟨_,_,rfl,_⟩:=h'
  exact⟨h,trivial⟩
 |ptr id k=>
  have h':=h
  simp only[zak]at h'
  obtain⟨_,_,rfl⟩:=h'
  exact⟨h,trivial⟩
 |arr id es s len=>
  have h':=h
  simp only[zak]at h'
  obtain⟨_,_,_,rfl,_⟩:=h'
  exact⟨h,trivial⟩
 |ow id es xs=>
  have h':=h
  simp only[zak]at h'
  obtain⟨_,_,_,_,rfl,_⟩:=h'
  exact⟨h,trivial⟩
 |fn f caps=>
  have h':=h
  simp only[zak]at h'
  obtain⟨_,rfl,_⟩:=h'
  exact⟨h,trivial⟩
 |tup ds=>
  have h':=h
  simp only[zak]at h'
  obtain⟨_,rfl,_⟩:=h'
  exact⟨h,trivial⟩
mutual
def D.toFD:D→Option FD
 | .fz x=>some x
 | .full xs=>some (.sl xs)
 | .ow _ _ xs=>some (.sl xs)
 | .agg ds=>(D.toFDs ds).map .agg
 |_=>none
def D.toFDs:List D→Option (List FD)
 |[]=>some []
 |d::ds=>match D.toFD d,D.toFDs ds with
  |some x,some xs=>some (x::xs)
  |_,_=>none
end
mutual
theorem zak.toFD {w L F U}:∀(d:D) (v:Value) (x:FD),zak w L F U d v→d.toFD=some x→zbn w F v x
 | .fz y,v,x,h,e=>by
  simp only[D.toFD,Option.some.injEq]at e
  subst e
  simpa only[zak]using h
 | .full xs,v,x,h,e=>by
  simp only[D.toFD,Option.some.injEq]at e
  subst e
  simp only[zak]at h
  obtain⟨a,_,h⟩:=h
  exact h
 | .ow _ _ xs,v,x,h,e=>by
  simp only[D.toFD,Option.some.injEq]at e
  subst e
  simp only[zak]at h
  exact h.2.1
 | .agg ds,v,x,h,e=>by
  simp only[D.toFD,Option.map_eq_some_iff]at e
  obtain⟨xs,e,rfl⟩:=e
  simp only[zak]at h
  obtain⟨vs,rfl,h⟩:=h
  obtain⟨h1,h2⟩:=zap.toFDs ds vs xs h e
  exact .agg vs xs h1 h2
 | .junk,_,_,_,e=>by simp[D.toFD]at e
 | .rp _,_,_,_,e=>by simp[D.toFD]at e
 | .ptr _ _,_,_,_,e=>by simp[D.toFD]at e
 | .arr _ _ _ _,_,_,_,e=>by simp[D.toFD]at e
 | .fn _ _,_,_,_,e=>by simp[D.toFD]at e
 | .tup _,_,_,_,e=>by simp[D.toFD]at e
theorem zap.toFDs {w L F U}:∀(ds:List D) (vs:List Value) (xs:List FD),zap w L F U ds vs→D.toFDs ds=some xs→
  vs.length=xs.length∧∀j,j<xs.length→zbn w F (vs.getD j undef) (xs.getD j .nilf)
 |[],vs,xs,h,e=>by
  simp only[D.toFDs,Option.some.injEq]at e
  subst e
  cases vs with
  |nil=>simp
  |cons=>exact h.elim
 |d::ds,vs,xs,h,e=>by
  cases vs with
  |nil=>exact h.elim
  |cons v vs=>
   simp only[D.toFDs]at e
   split at e
   ·rename_i x xs' e1 e2
    obtain rfl:=(Option.some.inj e).symm
    simp only[zap]at h
    obtain⟨i1,i2⟩:=zap.toFDs ds vs xs' h.2 e2
    refine⟨by simp[i1],fun j hj=>?_⟩
    cases j with
    |zero=>simpa using zak.toFD d v x h.1 e1
    |succ j=>simpa using i2 j (by simpa using hj)
   ·cases e
end
end Go.Abs
namespace Go.Abs
open Go
def zeV:Und→FD→FD→Option (Bool×Prop)
 | .bool,.b x,.b y=>some (x==y,True)
 | .int k,.i k1 x,.i k2 y=>some (x==y,k1=k∧k2=k)
 | .str,.s x,.s y=>some (x==y,True)
 |_,_,_=>none
def za1:List Und→List FD→List FD→Option (Bool×Prop)
 |[],[],[]=>some (true,True)
 |u::us,x::xs,y::ys=>
  match zeV u x y,za1 us xs ys with
  |some (a,c),some (b,e)=>some (a&&b,c∧e)
  |_,_=>none
 |_,_,_=>none
def inK (k:IntKind)(n:Int):Prop:=k.min≤n∧n≤k.max
def zdd (op:BinOp)(k k':IntKind)(a b:Int):Option (D×Prop):=
 match op with
 | .add=>some (.fz (.i k (a+b)),k=k'∧inK k (a+b))
 | .sub=>some (.fz (.i k (a-b)),k=k'∧inK k (a-b))
 | .mul=>some (.fz (.i k (a*b)),k=k'∧inK k (a*b))
 | .quo=>some (.fz (.i k (a / b)),k=k'∧0≤a∧0<b)
 | .rem=>some (.fz (.i k (a % b)),k=k'∧0≤a∧0<b)
 | .shr=>some (.fz (.i k (a / 2^b.toNat)),0≤a∧0≤b∧b.toNat≤k.bits)
 | .and=>some (.fz (.i k (k.wrap (BitVec.ofInt k.bits a&&& BitVec.ofInt k.bits b).toNat)),k=k')
 | .or=>some (.fz (.i k (k.wrap (BitVec.ofInt k.bits a|||BitVec.ofInt k.bits b).toNat)),k=k')
 | .eql=>some (.fz (.b (a==b)),k=k')
 | .neq=>some (.fz (.b (a !=b)),k=k')
 | .lss=>some (.fz (.b (decide (a<b))),k=k')
 | .leq=>some (.fz (.b (decide (a≤b))),k=k')
 | .gtr=>some (.fz (.b (decide (b<a))),k=k')
 | .geq=>some (.fz (.b (decide (b≤a))),k=k')
 |_=>none
def zf1 (op:BinOp)(a b:List UInt8):Option (D×Prop):=
 match op with
 | .add=>some (.fz (.s (a++b)),a.length+b.length≤zaZ)
 | .eql=>some (.fz (.b (a==b)),True)
 | .neq=>some (.fz (.b (!(a==b))),True)
 | .lss=>some (.fz (.b (Op.bytesLess a b)),True)
 | .leq=>some (.fz (.b (Op.bytesLess a b||a==b)),True)
 | .gtr=>some (.fz (.b (!(Op.bytesLess a b||a==b))),True)
 | .geq=>some (.fz (.b (!Op.bytesLess a b)),True)
 |_=>none
def TI.isBool (ti:TI):Bool:=match ti.und with| .bool=>true|_=>false
def zc5 (P:Program)(op:BinOp)(t:TypeId)(x y:D):Option (D×Prop):=
 match x,y with
 | .fz (.i k a),.fz (.i k' b)=>zdd op k k' a b
 | .fz (.s a),.fz (.s b)=>zf1 op a b
 | .fz (.b a),.fz (.b b)=>
  match zaq P t with
  |some ti=>if ti.isBool then
    match op with
    | .eql=>some (.fz (.b (a==b)),True)
    | .neq=>some (.fz (.b (!(a==b))),True)
    |_=>none
   else none
  |none=>none
 |x,y=>
  match x.toFD,y.toFD with
  |some (.agg xs),some (.agg ys)=>
   match zaq P t with
   |some ti=>
    match za1 ti.fund xs ys with
    |some (r,c)=>if ti.eqok then
      match op with
      | .eql=>some (.fz (.b r),c)
      | .neq=>some (.fz (.b (!r)),c)
      |_=>none
     else none
    |none=>none
   |none=>none
  |_,_=>none
def zvJ (op:UnOp)(x:D):Option (D×Prop):=
 match op,x with
 | .not,.fz (.b a)=>some (.fz (.b (!a)),True)
 | .neg,.fz (.i k a)=>some (.fz (.i k (-a)),inK k (-a))
 |_,_=>none
def zfp (c a b:D):Option (D×Prop):=
 match c with
 | .fz (.b x)=>some (if x then a else b,True)
 |_=>none
def zeh (P:Program)(H:zas)(t:TypeId)(a:D):Option (D×Prop):=
 match zaq P t with
 |none=>none
 |some ti=>
  match a with
  | .rp xs=>some (if ti.agg then .fz (.agg (xs.take ti.size))else .fz (xs.getD 0 .nilf),ti.size≤xs.length∧(ti.agg=false→ti.size=1))
  | .ptr id k=>
   match H id with
   |some o=>some (if ti.agg then .agg ((o.cells.drop k).take ti.size)else o.cells.getD k .junk,
     k+ti.size≤o.cells.length∧o.virt=false∧(ti.agg=false→ti.size=1))
   |none=>none
  |_=>none
def zmy (x:D):Option (D×Prop):=
 match x with
 | .rp _| .ptr _ _=>some (x,True)
 |_=>none
def zbF (P:Program)(t:TypeId)(x:D)(i:Nat):Option (D×Prop):=
 match zaq P t with
 |some ti=>
  match ti.und with
  | .struct fs=>
   match fs[i]? with
   |some (off,ft)=>
    match zaq P ft with
    |some fi=>
     match x with
     | .ptr id k=>some (.ptr id (k+off),fi.size≠0)
     | .rp xs=>some (.rp (xs.drop off),fi.size≠0)
     |_=>none
    |none=>none
   |none=>none
  |_=>none
 |none=>none
def zee (P:Program)(t:TypeId)(x:D)(i:Nat):Option (D×Prop):=
 match zaq P t with
 |some ti=>
  match ti.und with
  | .struct fs=>
   match fs[i]? with
   |some (off,ft)=>
    match zaq P ft,x with
    |some fi,.agg ds=>some (if fi.agg then .agg ((ds.drop off).take fi.size)else ds.getD off .junk,off+fi.size≤ds.length∧(fi.agg=false→fi.size=1))
    |some fi,.fz (.agg ds)=>some (if fi.agg then .fz (.agg ((ds.drop off).take fi.size))else .fz (ds.getD off .nilf),off+fi.size≤ds.length∧(fi.agg=false→fi.size=1))
    |_,_=>none
   |none=>none
  |_=>none
 |none=>none
def zau (P:Program)(t:TypeId):Option TI:=
 match zaq P t with
 |some ti=>
  match ti.und with
  | .slice e=>zaq P e
  |_=>none
 |none=>none
def zbG (P:Program)(t:TypeId)(x i:D):Option (D×Prop):=
 match zau P t,i with
 |some te,.fz (.i _ n)=>
  match x with
  | .fz (.sl xs)=>some (.rp (xs.getD n.toNat .nilf).cells,0≤n∧n<xs.length∧(xs.getD n.toNat .nilf).cells.length=te.size)
  | .full xs=>some (.rp (xs.getD n.toNat .nilf).cells,0≤n∧n<xs.length∧(xs.getD n.toNat .nilf).cells.length=te.size)
  | .ow _ _ xs=>some (.rp (xs.getD n.toNat .nilf).cells,0≤n∧n<xs.length∧(xs.getD n.toNat .nilf).cells.length=te.size)
  | .arr id es s len=>some (.ptr id (s+n.toNat*es),0≤n∧n<len∧es=te.size)
  |_=>none
 |_,_=>none
def TI.isStr (ti:TI):Bool:=match ti.und with| .str=>true|_=>false
def zeg (P:Program)(t:TypeId)(x i:D):Option (D×Prop):=
 match zaq P t,x,i with
 |some ti,.fz (.s l),.fz (.i _ n)=>if ti.isStr then some (.fz (.i .u8 ((l.getD n.toNat 0).toNat:Int)),0≤n∧n<l.length)else none
 |_,_,_=>none
def zc6 (x:D)(i:Nat):Option (D×Prop):=
 match x with
 | .tup ds=>match ds[i]? with|some d=>some (d,True)|none=>none
 |_=>none
def zbw (lo:Option D):Option Int:=
 match lo with
 |none=>some 0
 |some (.fz (.i _ n))=>some n
 |_=>none
def zaT (len:Nat)(hi:Option D):Option Int:=
 match hi with
 |none=>some len
 |some (.fz (.i _ n))=>some n
 |_=>none
def zbo (xs:List FD)(l h:Int):List FD:=(xs.take h.toNat).drop l.toNat
def zaF (P:Program)(t:TypeId)(x:D)(lo hi mx:Option D):Option (D×Prop):=
 match zaq P t,x with
 |some ti,.fz (.s s)=>
  if ti.isStr then
   match zbw lo,zaT s.length hi,mx with
   |some l,some h,none=>some (.fz (.s ((s.take h.toNat).drop l.toNat)),0≤l∧l≤h∧h≤s.length)
   |_,_,_=>none
  else none
 |some _,.fz (.sl xs)=>
  match zau P t,zbw lo,zaT xs.length hi with
  |some te,some l,some h=>
   match mx,hi with
   |none,_=>some (.fz (.sl (zbo xs l h)),0≤l∧l≤h∧h≤xs.length∧(l=0∨l=h∨(xs.getD l.toNat .nilf).cells.length=te.size))
   |some (.fz (.i _ m)),some _=>some (.full (zbo xs l h),0≤l∧l≤h∧h≤xs.length∧m=h∧(l=0∨l=h∨(xs.getD l.toNat .nilf).cells.length=te.size))
   |_,_=>none
  |_,_,_=>none
 |some _,.full xs=>
  match zau P t,zbw lo,zaT xs.length hi with
  |some te,some l,some h=>
   match mx,hi with
   |none,none=>some (.full (zbo xs l h),0≤l∧l≤h∧(l=0∨l=h∨(xs.getD l.toNat .nilf).cells.length=te.size))
   |none,some _=>some (.fz (.sl (zbo xs l h)),0≤l∧l≤h∧h≤xs.length∧(l=0∨l=h∨(xs.getD l.toNat .nilf).cells.length=te.size))
   |some (.fz (.i _ m)),some _=>some (.full (zbo xs l h),0≤l∧l≤h∧h≤xs.length∧m=h∧(l=0∨l=h∨(xs.getD l.toNat .nilf).cells.length=te.size))
   |_,_=>none
  |_,_,_=>none
 |some _,.ow _ _ xs=>
  match zau P t,zbw lo,zaT xs.length hi with
  |some te,some l,some h=>
   match mx,hi with
   |none,_=>some (.fz (.sl (zbo xs l h)),0≤l∧l≤h∧h≤xs.length∧(l=0∨l=h∨(xs.getD l.toNat .nilf).cells.length=te.size))
   |some (.fz (.i _ m)),some _=>some (.full (zbo xs l h),0≤l∧l≤h∧h≤xs.length∧m=h∧(l=0∨l=h∨(xs.getD l.toNat .nilf).cells.length=te.size))
   |_,_=>none
  |_,_,_=>none
 |some _,.arr id es s len=>
  match zau P t,zbw lo,zaT len hi,mx with
  |some te,some l,some h,none=>some (.arr id es (s+l.toNat*es) (h-l).toNat,0≤l∧l≤h∧h≤len∧es=te.size)
  |_,_,_,_=>none
 |_,_=>none
def TI.intK (ti:TI):Option IntKind:=match ti.und with| .int k=>some k|_=>none
def zdi (P:Program)(s t:TypeId)(x:D):Option (D×Prop):=
 match zaq P s,zaq P t,x with
 |some _,some ti,.fz (.i _ n)=>
  match ti.intK with
  |some k=>some (.fz (.i k n),inK k n)
  |none=>none
 |some si,some ti,.fz (.s l)=>if si.isStr&&ti.isStr then some (.fz (.s l),True)else none
 |some _,some ti,.full [.i .u8 n]=>
  match(zau P s).bind TI.intK with
  |some .u8=>if ti.isStr then some (.fz (.s [UInt8.ofNat n.toNat]),True)else none
  |_=>none
 |_,_,_=>none
def TI.isSlice (ti:TI):Bool:=match ti.und with| .slice _=>true|_=>false
def zk5 (P:Program)(t:TypeId)(x:D):Option (D×Prop):=
 match zaq P t,x with
 |some ti,.fz (.s l)=>if ti.isStr then some (.fz (.i .i64 l.length),True)else none
 |some ti,.fz (.sl xs)=>if ti.isSlice then some (.fz (.i .i64 xs.length),True)else none
 |some ti,.full xs=>if ti.isSlice then some (.fz (.i .i64 xs.length),True)else none
 |some ti,.ow _ _ xs=>if ti.isSlice then some (.fz (.i .i64 xs.length),True)else none
 |some ti,.arr _ _ _ len=>if ti.isSlice then some (.fz (.i .i64 len),True)else none
 |_,_=>none
def zaN (P:Program)(b:Builtin)(ts:Array TypeId)(args:List D):Option (D×Prop):=
 match b,args with
 | .len,[x]=>match ts[0]? with|some t=>zk5 P t x|none=>none
 | .max,[.fz (.i k a),.fz (.i k' b)]=>some (.fz (.i k (max a b)),k=k')
 | .min,[.fz (.i k a),.fz (.i k' b)]=>some (.fz (.i k (min a b)),k=k')
 |_,_=>none
def zcT (cells:List D)(off:Nat)(new:List D):List D:=
 new.zipIdx.foldl (fun cs p=>cs.set (off+p.2) p.1) cells
def zc7 (P:Program)(fs:List (Nat×TypeId))(cells:List D):List (Nat×D)→Option (List D×Prop)
 |[]=>some (cells,True)
 |(i,d)::rest=>
  match fs[i]? with
  |none=>none
  |some (off,ft)=>
   match zaq P ft with
   |none=>none
   |some fi=>
    match zc7 P fs (zcT cells off d.cs) rest with
    |some (cs,c)=>some (cs,(d.cs.length=fi.size∧off+fi.size≤cells.length)∧c)
    |none=>none
def zed (P:Program)(t:TypeId)(ps:List (Nat×D)):Option (D×Prop):=
 match zaq P t with
 |some ti=>
  match ti.und with
  | .struct fs=>
   if fs.all (fun p=>(zaq P p.2).isSome)then
    match zc7 P fs ti.zero ps with
    |some (cs,c)=>some (.agg cs,c)
    |none=>none
   else none
  |_=>none
 |none=>none
def D.known:D→Bool
 | .junk=>false
 |_=>true
def za7 (P:Program)(o:Oper)(ev:Operand→D)(H:zas):Option (D×Prop):=
 match o.op with
 | .move x=>some (ev x,True)
 | .assign x=>some (ev x,True)
 | .pick c a b=>zfp (ev c) (ev a) (ev b)
 | .build t ps=>if ps.toList.all (fun p=>(ev p.2).known)then zed P t (ps.toList.map fun p=>(p.1,ev p.2))else none
 | .load t a=>zeh P H t (ev a)
 | .nilCheck x=>zmy (ev x)
 | .binOp op t x y _=>zc5 P op t (ev x) (ev y)
 | .unOp op _ x=>zvJ op (ev x)
 | .convert s t x=>zdi P s t (ev x)
 | .makeFunc (.func f) first caps=>if first.size=0 then some (.fn f (caps.toList.map ev),True)else none
 | .slice t x lo hi mx=>zaF P t (ev x) (lo.map ev) (hi.map ev) (mx.map ev)
 | .fieldAddr t x i=>zbF P t (ev x) i
 | .field t x i=>zee P t (ev x) i
 | .indexAddr t x i=>zbG P t (ev x) (ev i)
 | .index t x i=>zeg P t (ev x) (ev i)
 | .extract x i=>zc6 (ev x) i
 | .call c=>match c.callee with
  | .builtin b=>zaN P b c.argTypes (c.args.toList.map ev)
  |_=>none
 |_=>none
end Go.Abs
namespace Go.Abs
open Go
section
variable {P:Program} {G:Nat→List FD} {w:World} {L:Loc} {F:Nat→Nat→Prop} {U:Id→Prop} {H:zas}
theorem ze8 {k:IntKind}{n:Int}(h:inK k n):k.wrap n=n:=by
 unfold inK at h
 cases k<;>simp[IntKind.min,IntKind.max,IntKind.wrap,IntKind.signed,IntKind.bits]at h ⊢ <;>omega
theorem zoj (k:IntKind)(n:Int):inK k (k.wrap n):=by
 unfold inK
 cases k<;>simp[IntKind.min,IntKind.max,IntKind.wrap,IntKind.signed,IntKind.bits]<;>omega
theorem zkh {k n v}(h:zak w L F U (.fz (.i k n)) v):v= .int k n∧inK k n:=by
 simp only[zak]at h
 obtain⟨h1,h2,h3⟩:=h.int_inv
 exact⟨h1,h2,h3⟩
theorem zbh {k n}(h:inK k n):zak w L F U (.fz (.i k n)) (.int k n):=by
 simp only[zak];exact .i k n h.1 h.2
theorem vb {x v}(h:zak w L F U (.fz (.b x)) v):v= .bool x:=by
 simp only[zak]at h;exact h.b_inv
theorem zdv (x:Bool):zak w L F U (.fz (.b x)) (.bool x):=by
 simp only[zak];exact .b x
theorem vs {l v}(h:zak w L F U (.fz (.s l)) v):∃x:ByteArray,v= .string x∧x.data.toList=l∧x.size=l.length∧l.length≤zaZ:=by
 simp only[zak]at h;exact h.s_inv
theorem zpI {x:ByteArray}{l:List UInt8}(h:x.data.toList=l)(hl:l.length≤zaZ):zak w L F U (.fz (.s l)) (.string x):=by
 subst h
 simp only[zak]
 have hs:x.size=x.data.toList.length:=by rw[Array.length_toList];rfl
 exact .s x (hs▸hl)
theorem ztq {op k k' a b d c t x y X Y}(h:zdd op k k' a b=some (d,c))(hc:c)(hx:zak w L F U (.fz (.i k a)) x)(hy:zak w L F U (.fz (.i k' b)) y):
  ∃v,(do eqGuard op t X Y x y;binOp op t x y:Sem Value).run P w= .ok v w∧zak w L F U d v:=by
 obtain⟨rfl,ha⟩:=zkh hx
 obtain⟨rfl,hb⟩:=zkh hy
 rw[eqGuard_at_int]
 simp only[pure_bind]
 cases op<;>simp only[zdd,Option.some.injEq,Prod.mk.injEq,reduceCtorEq]at h<;>obtain⟨rfl,rfl⟩:=h
 case add=>obtain⟨rfl,hc⟩:=hc;exact⟨_,by simp[binOp,Op.intArith,ze8 hc],zbh hc⟩
 case sub=>obtain⟨rfl,hc⟩:=hc;exact⟨_,by simp[binOp,Op.intArith,ze8 hc],zbh hc⟩
 case mul=>obtain⟨rfl,hc⟩:=hc;exact⟨_,by simp[binOp,Op.intArith,ze8 hc],zbh hc⟩
 case quo=>
  obtain⟨rfl,h0,h1⟩:=hc
  have hq:inK k (a / b):=by
   have h2:a / b≤a:=Int.ediv_le_self b h0
   have h3:0≤a / b:=Int.ediv_nonneg h0 (by omega)
   have hm:k.min≤0:=by cases k<;>decide
   exact⟨by omega,Int.le_trans h2 ha.2⟩
  refine⟨_,?_,zbh hq⟩
  simp[binOp,Op.intDiv,show¬b=0 by omega,Int.tdiv_eq_ediv_of_nonneg h0,ze8 hq]
 case rem=>
  obtain⟨rfl,h0,h1⟩:=hc
  have hq:inK k (a % b):=by
   have h2:a % b<b:=Int.emod_lt_of_pos a h1
   have h3:0≤a % b:=Int.emod_nonneg a (by omega)
   have hm:k.min≤0:=by cases k<;>decide
   have:=hb.2
   exact⟨by omega,by omega⟩
  refine⟨_,?_,zbh hq⟩
  simp[binOp,Op.intDiv,show¬b=0 by omega,Int.tmod_eq_emod_of_nonneg h0]
 case and=>subst hc;exact⟨_,by simp[binOp,Op.intBits],zbh (zoj _ _)⟩
 case or=>subst hc;exact⟨_,by simp[binOp,Op.intBits],zbh (zoj _ _)⟩
 case shr=>
  obtain⟨h0,h1,h2⟩:=hc
  have hq:inK k (a / 2^b.toNat):=by
   have h2:a / 2^b.toNat≤a:=Int.ediv_le_self _ h0
   have h3:0≤a / 2^b.toNat:=Int.ediv_nonneg h0 (Int.le_of_lt (Int.pow_pos (by omega)))
   have hm:k.min≤0:=by cases k<;>decide
   exact⟨by omega,Int.le_trans h2 ha.2⟩
  refine⟨_,?_,zbh hq⟩
  have hp:(0:Int)≤2^b.toNat:=Int.le_of_lt (Int.pow_pos (by omega))
  simp[binOp,Op.shift,show¬b<0 by omega,Nat.min_eq_left h2,Int.fdiv_eq_ediv_of_nonneg _ hp]
 case eql=>subst hc;exact⟨_,by simp[binOp,Op.intCmp],zdv _⟩
 case neq=>subst hc;exact⟨_,by simp[binOp,Op.intCmp],zdv _⟩
 case lss=>subst hc;exact⟨_,by simp[binOp,Op.intCmp],zdv _⟩
 case leq=>subst hc;exact⟨_,by simp[binOp,Op.intCmp],zdv _⟩
 case gtr=>subst hc;exact⟨_,by simp[binOp,Op.intCmp],zdv _⟩
 case geq=>subst hc;exact⟨_,by simp[binOp,Op.intCmp],zdv _⟩
theorem ztu {op a b d c t x y X Y}(h:zf1 op a b=some (d,c))(hc:c)(hx:zak w L F U (.fz (.s a)) x)(hy:zak w L F U (.fz (.s b)) y):
  ∃v,(do eqGuard op t X Y x y;binOp op t x y:Sem Value).run P w= .ok v w∧zak w L F U d v:=by
 obtain⟨xa,rfl,hxa,hsa,hla⟩:=vs hx
 obtain⟨xb,rfl,hxb,hsb,hlb⟩:=vs hy
 have ea:xa.toList=a:=by rw[ByteArray.toList_eq,hxa]
 have eb:xb.toList=b:=by rw[ByteArray.toList_eq,hxb]
 rw[eqGuard_at_string]
 simp only[pure_bind]
 cases op<;>simp only[zf1,Option.some.injEq,Prod.mk.injEq,reduceCtorEq]at h<;>obtain⟨rfl,rfl⟩:=h
 case add=>
  refine⟨.string (xa++xb),?_,zpI ?_ (by simpa using hc)⟩
  ·have:¬(((xa.size+xb.size:Nat):Int)>IntKind.i64.max):=by
    rw[hsa,hsb];simp only[IntKind.max,IntKind.signed,IntKind.bits,if_true]
    unfold zaZ at hc
    omega
   simp only[binOp,Op.stringOp,if_neg this,Sem.run_pure]
  ·rw[←hxa,←hxb];simp
 case eql=>exact⟨_,by simp only[binOp,Op.stringOp,ea,eb,Sem.run_pure],zdv _⟩
 case neq=>exact⟨_,by simp only[binOp,Op.stringOp,ea,eb,Sem.run_pure],zdv _⟩
 case lss=>exact⟨_,by simp only[binOp,Op.stringOp,ea,eb,Sem.run_pure],zdv _⟩
 case leq=>exact⟨_,by simp only[binOp,Op.stringOp,ea,eb,Sem.run_pure],zdv _⟩
 case gtr=>exact⟨_,by simp only[binOp,Op.stringOp,ea,eb,Sem.run_pure],zdv _⟩
 case geq=>exact⟨_,by simp only[binOp,Op.stringOp,ea,eb,Sem.run_pure],zdv _⟩
theorem zlx {P:Program}{w:World}{t:TypeId}(hp:zpq P t=true){cs:Array Value}{off:Nat}{v:Value}(h:cs[off]?=some v):
  (part t cs off).run P w= .ok v w:=by
 unfold zpq at hp
 have:(isAgg t).run P w= .ok false w:=by
  simp only[isAgg,underlying,Sem.run_bind,run_program,Result.andThen_ok]
  split at hp<;>first|(simp[*];done)|(cases hp)
 simp[part,this,h]
theorem zk1 {P:Program}{w:World}{F:Nat→Nat→Prop}{t:TypeId}{u:TypeDesc}(hu:P.underlying t=some u){d:Nat}{x y:FD}{r:Bool}{c:Prop}{a b:Value}
  (ha:zbn w F a x)(hb:zbn w F b y)(hr:zeV (zdJ u) x y=some (r,c))(hc:c):
  (Op.equalIn (d+1) t a b).run P w= .ok r w:=by
 cases u<;>cases x<;>cases y<;>simp only[zdJ,zeV,Option.some.injEq,Prod.mk.injEq,reduceCtorEq]at hr<;>obtain⟨rfl,rfl⟩:=hr
 ·rw[ha.b_inv,hb.b_inv]
  exact run_equalIn_bool' w d t _ _ hu
 ·rw[ha.int_inv.1,hb.int_inv.1]
  obtain⟨rfl,rfl⟩:=hc
  exact run_equalIn_int w d t _ _ _ _ hu
 ·obtain⟨xa,rfl,hxa,_,_⟩:=ha.s_inv
  obtain⟨xb,rfl,hxb,_,_⟩:=hb.s_inv
  rw[run_equalIn_string w d t _ _ hu,ByteArray.toList_eq,ByteArray.toList_eq,hxa,hxb]
theorem ztY {P:Program}{t:TypeId}(h:zpq P t=true):∃u,P.underlying t=some u∧((P.underlying t).map zdJ).getD .other=zdJ u:=by
 unfold zpq at h
 split at h<;>rename_i hu<;>first|exact⟨_,hu,by rw[hu];rfl⟩|cases h
theorem zhp {P:Program}{w:World}{F:Nat→Nat→Prop}{d:Nat}{va vb:List Value}:∀(fs:List Field) (i:Nat) (xs ys:List FD) (r:Bool) (c:Prop),
  ((fs.zipIdx i).all fun(f,i)=>f.name != "_" &&f.offset==i&&zpq P f.type)=true→
  za1 (fs.map fun f=>((P.underlying f.type).map zdJ).getD .other) xs ys=some (r,c)→c→
  (∀j,j<xs.length→∃a,va[i+j]?=some a∧zbn w F a (xs.getD j .nilf))→(∀j,j<ys.length→∃a,vb[i+j]?=some a∧zbn w F a (ys.getD j .nilf))→
  (Op.eqFields (d+1) va.toArray vb.toArray fs).run P w= .ok r w
 |[],i,xs,ys,r,c,_,h,_,_,_=>by
  cases xs<;>cases ys<;>simp only[List.map_nil,za1,Option.some.injEq,Prod.mk.injEq,reduceCtorEq]at h
  obtain⟨rfl,rfl⟩:=h
  simp[Op.eqFields]
 |f::fs,i,xs,ys,r,c,hall,h,hc,ha,hb=>by
  cases xs with
  |nil=>simp[za1]at h
  |cons x xs=>
   cases ys with
   |nil=>simp[za1]at h
   |cons y ys=>
    simp only[List.map_cons,za1]at h
    simp only[List.zipIdx_cons,List.all_cons,Bool.and_eq_true,bne_iff_ne,ne_eq,beq_iff_eq]at hall
    obtain⟨⟨⟨hn,ho⟩,hp⟩,hrest⟩:=hall
    obtain⟨u,hu,hu'⟩:=ztY hp
    rw[hu']at h
    split at h
    ·rename_i a1 c1 b1 e1 h1 h2
     obtain⟨rfl,rfl⟩:=(by simpa using h:(a1&&b1)=r∧(c1∧e1)=c)
     obtain⟨a,ha1,ha2⟩:=ha 0 (by simp)
     obtain⟨b,hb1,hb2⟩:=hb 0 (by simp)
     have e:=zk1 (d:=d) hu ha2 hb2 h1 hc.1
     have p1:(part f.type va.toArray f.offset).run P w= .ok a w:=zlx hp (by simpa[ho]using ha1)
     have p2:(part f.type vb.toArray f.offset).run P w= .ok b w:=zlx hp (by simpa[ho]using hb1)
     have ih:=zhp (d:=d) fs (i+1) xs ys b1 e1 hrest h2 hc.2
      (fun j hj=>by have:=ha (j+1) (by simpa using hj);simpa[Nat.add_assoc,Nat.add_comm 1 j]using this)
      (fun j hj=>by have:=hb (j+1) (by simpa using hj);simpa[Nat.add_assoc,Nat.add_comm 1 j]using this)
     simp only[Op.eqFields,hn,ne_eq,not_false_eq_true,if_true,Sem.run_bind,p1,p2,e,Result.andThen_ok]
     cases a1
     ·simp
     ·simpa using ih
    ·cases h
theorem ztl {P:Program}{w:World}{L F U}{op t x y d c a b X Y}(h:zc5 P op t x y=some (d,c))(hc:c)(hx:zak w L F U x a)(hy:zak w L F U y b):
  ∃v,(do eqGuard op t X Y a b;binOp op t a b:Sem Value).run P w= .ok v w∧zak w L F U d v:=by
 unfold zc5 at h
 split at h
 ·exact ztq h hc hx hy
 ·exact ztu h hc hx hy
 ·split at h
  ·rename_i ti hti
   split at h
   ·rename_i hb
    obtain⟨i,z,u,h1,h2,h3,rfl⟩:=zaA hti
    have hu:P.underlying t=some .bool:=by
     rw[h3];congr 1
     unfold TI.isBool at hb
     exact zui (by revert hb;dsimp only;cases zdJ u<;>simp)
    rw[vb hx,vb hy,eqGuard_at_bool]
    split at h<;>simp only[Option.some.injEq,Prod.mk.injEq,reduceCtorEq]at h
    ·obtain⟨rfl,rfl⟩:=h;exact⟨_,by simp[run_eql_bool w t _ _ hu],zdv _⟩
    ·obtain⟨rfl,rfl⟩:=h;exact⟨_,by simp[run_neq_bool w t _ _ hu],zdv _⟩
   ·cases h
  ·cases h
 ·split at h
  ·rename_i xs ys h1 h2
   have ha:=zak.toFD _ _ _ hx h1
   have hb:=zak.toFD _ _ _ hy h2
   split at h
   ·rename_i ti hti
    split at h
    ·rename_i r c' he
     split at h
     ·rename_i hok
      obtain⟨i,z,u,g1,g2,g3,rfl⟩:=zaA hti
      dsimp only at hok he
      unfold zvI at hok
      split at hok
      ·rename_i fs
       simp only[Bool.and_eq_true,Bool.not_eq_true']at hok
       obtain⟨⟨e1,e2⟩,e3⟩:=hok
       obtain⟨va,rfl,la,ra⟩:=ha.agg_inv
       obtain⟨vb,rfl,lb,rb⟩:=hb.agg_inv
       have hfs:P.fieldsOf t=fs:=by simp[Program.fieldsOf,g3]
       have key:c'→(Op.equalIn 10000 t (.agg va.toArray) (.agg vb.toArray)).run P w= .ok r w:=fun hc'=>by
        rw[run_equalIn_struct w 9999 t _ _ (by rw[hfs,g3]) e2,hfs]
        refine zhp (F:=F) fs.toList 0 xs ys r c' (by simpa using e3) he hc' (fun j hj=>?_) (fun j hj=>?_)
        ·exact⟨_,by simp[List.getElem?_eq_getElem (by omega:j<va.length)];rfl,by simpa[List.getD,List.getElem?_eq_getElem (by omega:j<va.length)]using ra j hj⟩
        ·exact⟨_,by simp[List.getElem?_eq_getElem (by omega:j<vb.length)];rfl,by simpa[List.getD,List.getElem?_eq_getElem (by omega:j<vb.length)]using rb j hj⟩
       simp only[Sem.run_bind,run_eqGuard_agg w op t X Y _ _ e1,Result.andThen_ok]
       split at h<;>simp only[Option.some.injEq,Prod.mk.injEq,reduceCtorEq]at h
       ·obtain⟨rfl,rfl⟩:=h
        exact⟨_,by rw[run_eql_struct,key hc];rfl,zdv _⟩
       ·obtain⟨rfl,rfl⟩:=h
        exact⟨_,by rw[run_neq_struct,key hc];rfl,zdv _⟩
      ·cases hok
     ·cases h
    ·cases h
   ·cases h
  ·cases h
end
end Go.Abs
namespace Go.Abs
open Go
section
variable {P:Program} {G:Nat→List FD} {w:World} {L:Loc} {F:Nat→Nat→Prop} {U:Id→Prop} {H:zas}
theorem zvK {op x d c a}(h:zvJ op x=some (d,c))(hc:c)(hx:zak w L F U x a):∃v,(Op.unary op a).run P w= .ok v w∧zak w L F U d v:=by
 unfold zvJ at h
 split at h<;>simp only[Option.some.injEq,Prod.mk.injEq,reduceCtorEq]at h<;>obtain⟨rfl,rfl⟩:=h
 ·rw[vb hx];exact⟨_,by simp[Op.unary],zdv _⟩
 ·rw[(zkh hx).1];exact⟨_,by simp[Op.unary,Op.intArith,ze8 hc],zbh hc⟩
theorem ztt {x d c a}(h:zmy x=some (d,c))(hx:zak w L F U x a):(∃p,a= .pointer (some p))∧zak w L F U d a:=by
 unfold zmy at h
 split at h<;>simp only[Option.some.injEq,Prod.mk.injEq,reduceCtorEq]at h<;>obtain⟨rfl,rfl⟩:=h
 ·refine⟨?_,hx⟩
  simp only[zak]at hx
  obtain⟨b,off,rfl,_⟩:=hx
  exact⟨_,rfl⟩
 ·refine⟨?_,hx⟩
  simp only[zak]at hx
  obtain⟨_,_,rfl⟩:=hx
  exact⟨_,rfl⟩
theorem zb2.real {id:Id}{o:O}(h:zb2 w L F U id o)(hv:o.virt=false):(L id).3=false:=by
 unfold zb2 at h
 cases hL:(L id).3
 ·rfl
 ·rw[hL]at h;simp[hv]at h
theorem zaC {id:Id}{o:O}(h:zb2 w L F U id o)(hv:(L id).3=false):(∀k,(L id).2≤k→¬F (L id).1 k)∧∃cs T,w.heap[(L id).1]?=some (.cells cs T (0,0))∧(L id).2+o.cells.length≤cs.size∧
   ∀j,j<o.cells.length→∃v,cs[(L id).2+j]?=some v∧zak w L F U (o.cells.getD j .junk) v:=by
 unfold zb2 at h
 rw[hv]at h
 simpa using h
theorem zgs {id:Id}{o:O}(h:zb2 w L F U id o)(hv:o.virt=false):(∀k,(L id).2≤k→¬F (L id).1 k)∧∃cs T,w.heap[(L id).1]?=some (.cells cs T (0,0))∧(L id).2+o.cells.length≤cs.size∧
   ∀j,j<o.cells.length→∃v,cs[(L id).2+j]?=some v∧zak w L F U (o.cells.getD j .junk) v:=zaC h (h.real hv)
theorem zdm {n:Nat}{p:Nat→Value→Prop}(h:∀j,j<n→∃v,p j v):∃f:Nat→Value,∀j,j<n→p j (f j):=by
 refine⟨fun j=>if hj:j<n then(h j hj).choose else undef,fun j hj=>?_⟩
 simp only[hj,dif_pos]
 exact(h j hj).choose_spec
theorem zk6 {t x d c a}(h:zeh P H t x=some (d,c))(hc:c)(hok:OkW G w L F U H)(hx:zak w L F U x a):
  ∃v,(Instr.loadAt t a).run P w= .ok v w∧zak w L F U d v:=by
 unfold zeh at h
 split at h
 ·cases h
 ·rename_i ti hti
  split at h
  ·rename_i xs
   simp only[Option.some.injEq,Prod.mk.injEq]at h
   obtain⟨rfl,rfl⟩:=h
   obtain⟨h1,h2⟩:=hc
   simp only[zak]at hx
   obtain⟨b,off,rfl,hcell⟩:=hx
   obtain⟨f,hf⟩:=zdm fun j hj=>(hcell j hj).2
   have hrun:=zhT (w:=w) hti (b:=b) (off:=off) f (fun j hj=>(hf j (by omega)).1) h2
   refine⟨_,by simpa[Instr.loadAt,Instr.sureAddr]using hrun,?_⟩
   cases hagg:ti.agg
   ·simp only[Bool.false_eq_true,if_false,zak]
    exact(hf 0 (by have:=h2 hagg;omega)).2
   ·simp only[if_true,zak]
    refine .agg _ _ (by simp[Nat.min_eq_left h1]) (fun j hj=>?_)
    have hj':j<ti.size:=by simp at hj;omega
    have:=(hf j (by omega)).2
    simp only[List.getD_eq_getElem?_getD,List.getElem?_map,List.getElem?_range hj',List.getElem?_take_of_lt hj',Option.map_some,Option.getD_some]at this ⊢
    exact this
  ·rename_i id k
   split at h
   ·rename_i o ho
    simp only[Option.some.injEq,Prod.mk.injEq]at h
    obtain⟨rfl,rfl⟩:=h
    obtain⟨h1,hv,h2⟩:=hc
    simp only[zak]at hx
    obtain⟨hU,hL,rfl⟩:=hx
    obtain⟨_,cs,T,hb,_,hcell⟩:=zgs (hok.live id o ho).2 hv
    obtain⟨f,hf⟩:=zdm hcell
    have hrun:=zhT (w:=w) hti (b:=(L id).1) (off:=(L id).2+k) (fun j=>f (k+j))
     (fun j hj=>by rw[zfY hb,Nat.add_assoc];exact(hf (k+j) (by omega)).1) h2
    refine⟨_,by simpa[Instr.loadAt,Instr.sureAddr]using hrun,?_⟩
    cases hagg:ti.agg
    ·simp only[Bool.false_eq_true,if_false]
     exact(hf k (by have:=h2 hagg;omega)).2
    ·simp only[if_true,zak]
     refine⟨_,rfl,?_⟩
     rw[zap.iff]
     refine⟨by simp;omega,fun j hj=>?_⟩
     have hj':j<ti.size:=by simp at hj;omega
     have:=(hf (k+j) (by omega)).2
     simp only[List.getD_eq_getElem?_getD,List.getElem?_map,List.getElem?_range hj',List.getElem?_take_of_lt hj',List.getElem?_drop,Option.map_some,Option.getD_some]at this ⊢
     exact this
   ·cases h
  ·cases h
theorem zid {t x i d c a}(h:zbF P t x i=some (d,c))(hc:c)(hx:zak w L F U x a):
  ∃v,(Instr.fieldAt t a i).run P w= .ok v w∧zak w L F U d v:=by
 unfold zbF at h
 split at h
 case h_2=>cases h
 rename_i ti hti
 split at h
 case h_2=>cases h
 rename_i fs hfs
 split at h
 case h_2=>cases h
 rename_i off ft hi
 split at h
 case h_2=>cases h
 rename_i fi hfi
 obtain⟨inf,z,u,g1,g2,g3,rfl⟩:=zaA hti
 obtain⟨fs',rfl,rfl⟩:=zge hfs
 have hf:∃f,fs'[i]?=some f∧f.offset=off∧f.type=ft:=by
  simp only[List.getElem?_map,Option.map_eq_some_iff,Prod.mk.injEq]at hi
  obtain⟨f,h1,h2,h3⟩:=hi
  exact⟨f,by simpa using h1,h2,h3⟩
 obtain⟨f,hf,rfl,rfl⟩:=hf
 have hplace:∀(b o:Nat),fi.size≠0→(fieldPlace ⟨b,o,none⟩ f).run P w= .ok ⟨b,o+f.offset,none⟩ w:=fun b o hne=>by
  simp[fieldPlace,zaw hfi,hne,zby]
 split at h<;>simp only[Option.some.injEq,Prod.mk.injEq,reduceCtorEq]at h<;>obtain⟨rfl,rfl⟩:=h
 ·rename_i id k
  simp only[zak]at hx
  obtain⟨hU,hL,rfl⟩:=hx
  refine⟨.pointer (some ⟨(L id).1,(L id).2+k+f.offset,none⟩),?_,?_⟩
  ·simp[Instr.fieldAt,run_underlying g3,hf,Instr.sureAddr,hplace _ _ hc]
  ·simp only[zak];exact⟨hU,hL,by rw[Nat.add_assoc]⟩
 ·rename_i xs
  simp only[zak]at hx
  obtain⟨b,o,rfl,hcell⟩:=hx
  refine⟨.pointer (some ⟨b,o+f.offset,none⟩),?_,?_⟩
  ·simp[Instr.fieldAt,run_underlying g3,hf,Instr.sureAddr,hplace _ _ hc]
  ·simp only[zak]
   refine⟨b,o+f.offset,rfl,fun j hj=>?_⟩
   obtain⟨hF,u,hu1,hu2⟩:=hcell (f.offset+j) (by simp at hj;omega)
   refine⟨by rw[Nat.add_assoc];exact hF,u,by rw[Nat.add_assoc];exact hu1,?_⟩
   simpa[List.getD_eq_getElem?_getD,List.getElem?_drop]using hu2
theorem zo1 {t x i d c a}(h:zee P t x i=some (d,c))(hc:c)(hx:zak w L F U x a):
  ∃v,(Instr.field t a i).run P w= .ok v w∧zak w L F U d v:=by
 unfold zee at h
 split at h
 case h_2=>cases h
 rename_i ti hti
 split at h
 case h_2=>cases h
 rename_i fs hfs
 split at h
 case h_2=>cases h
 rename_i off ft hi
 obtain⟨inf,z,u,g1,g2,g3,rfl⟩:=zaA hti
 obtain⟨fs',rfl,rfl⟩:=zge hfs
 have hf:∃f,fs'[i]?=some f∧f.offset=off∧f.type=ft:=by
  simp only[List.getElem?_map,Option.map_eq_some_iff,Prod.mk.injEq]at hi
  obtain⟨f,h1,h2,h3⟩:=hi
  exact⟨f,by simpa using h1,h2,h3⟩
 obtain⟨f,hf,rfl,rfl⟩:=hf
 split at h
 ·rename_i fi ds hfi
  simp only[Option.some.injEq,Prod.mk.injEq]at h
  obtain⟨rfl,rfl⟩:=h
  simp only[zak]at hx
  obtain⟨vs,rfl,hx⟩:=hx
  rw[zap.iff]at hx
  obtain⟨hl,hx⟩:=hx
  obtain⟨h1,h2⟩:=hc
  cases hagg:fi.agg
  ·have h3:=h2 hagg
   have hlt:f.offset<vs.length:=by omega
   refine⟨vs.getD f.offset undef,?_,?_⟩
   ·simp[Instr.field,run_underlying g3,hf,part,asAgg,zcG hfi,hagg,hlt]
   ·simpa using hx f.offset (by omega)
  ·refine⟨.agg (vs.toArray.extract f.offset (f.offset+fi.size)),?_,?_⟩
   ·simp[Instr.field,run_underlying g3,hf,part,asAgg,zcG hfi,hagg,zaw hfi]
   ·simp only[if_true,zak]
    refine⟨(vs.drop f.offset).take fi.size,by simp[List.extract_eq_take_drop],?_⟩
    rw[zap.iff]
    refine⟨by simp;omega,fun j hj=>?_⟩
    have hj':j<fi.size:=by simp at hj;omega
    have:=hx (f.offset+j) (by omega)
    simpa only[List.getD_eq_getElem?_getD,List.getElem?_take_of_lt hj',List.getElem?_drop]using this
 ·rename_i fi ds hfi
  simp only[Option.some.injEq,Prod.mk.injEq]at h
  obtain⟨rfl,rfl⟩:=h
  simp only[zak]at hx
  obtain⟨vs,rfl,hl,hx⟩:=hx.agg_inv
  obtain⟨h1,h2⟩:=hc
  cases hagg:fi.agg
  ·have h3:=h2 hagg
   have hlt:f.offset<vs.length:=by omega
   refine⟨vs.getD f.offset undef,?_,?_⟩
   ·simp[Instr.field,run_underlying g3,hf,part,asAgg,zcG hfi,hagg,hlt]
   ·simp only[Bool.false_eq_true,if_false,zak]
    exact hx f.offset (by omega)
  ·refine⟨.agg (vs.toArray.extract f.offset (f.offset+fi.size)),?_,?_⟩
   ·simp[Instr.field,run_underlying g3,hf,part,asAgg,zcG hfi,hagg,zaw hfi]
   ·simp only[if_true,zak]
    have he:Value.agg (vs.toArray.extract f.offset (f.offset+fi.size))= .agg ((vs.drop f.offset).take fi.size).toArray:=by simp[List.extract_eq_take_drop]
    rw[he]
    refine .agg _ _ (by simp;omega) (fun j hj=>?_)
    have hj':j<fi.size:=by simp at hj;omega
    have:=hx (f.offset+j) (by omega)
    simpa only[List.getD_eq_getElem?_getD,List.getElem?_take_of_lt hj',List.getElem?_drop]using this
 ·cases h
theorem za0 {t te}(h:zau P t=some te):∃e,P.underlying t=some (.slice e)∧zaq P e=some te:=by
 unfold zau at h
 split at h
 case h_2=>cases h
 rename_i ti hti
 split at h
 case h_2=>cases h
 rename_i e he
 obtain⟨inf,z,u,g1,g2,g3,rfl⟩:=zaA hti
 exact⟨e,by rw[g3,zl1 he],h⟩
theorem zjt {xs:List FD}{v:Value}{n:Nat}(h:zbn w F v (.sl xs))(hn:n<xs.length):∃b off cap,v= .slice (some ⟨b,off,none⟩) xs.length cap∧
  zak w L F U (.rp (xs.getD n .nilf).cells) (.pointer (some ⟨b,off+n*(xs.getD n .nilf).cells.length,none⟩)):=by
 obtain⟨a,cap,rfl,h1,h2,h3⟩:=h.sl_inv
 obtain⟨b,off,es,vs,rfl,hF,hes,hcs,hrep⟩:=h3 (by omega)
 refine⟨b,off,cap,rfl,?_⟩
 simp only[zak]
 refine⟨b,_,rfl,fun j hj=>?_⟩
 have he:=hes n hn
 exact⟨by rw[he,Nat.add_assoc];exact hF _ (zpf hn (by omega)),vs n j,by rw[he];exact hcs n j hn (by omega),hrep n j hn (by omega)⟩
theorem zif {t x i d c a b}(h:zbG P t x i=some (d,c))(hc:c)(hx:zak w L F U x a)(hi:zak w L F U i b):
  ∃v,(Instr.indexAt t a b).run P w= .ok v w∧zak w L F U d v:=by
 unfold zbG at h
 split at h
 case h_2=>cases h
 rename_i te k n hte
 obtain⟨e,hu,he⟩:=za0 hte
 obtain⟨rfl,_⟩:=zkh hi
 split at h<;>simp only[Option.some.injEq,Prod.mk.injEq,reduceCtorEq]at h<;>obtain⟨rfl,rfl⟩:=h
 ·rename_i xs
  obtain⟨h0,h1,h2⟩:=hc
  simp only[zak]at hx
  obtain⟨bb,off,cap,rfl,hr⟩:=zjt (L:=L) (U:=U) hx (n:=n.toNat) (by omega)
  rw[h2]at hr
  refine⟨_,?_,hr⟩
  simp[Instr.indexAt,asIntOf,run_underlying hu,h0,h1,zaw he,zby]
 ·rename_i xs
  obtain⟨h0,h1,h2⟩:=hc
  simp only[zak]at hx
  obtain⟨a',rfl,hx⟩:=hx
  obtain⟨bb,off,cap,hv,hr⟩:=zjt (L:=L) (U:=U) hx (n:=n.toNat) (by omega)
  injection hv with hv1 hv2 hv3
  subst hv1
  rw[h2]at hr
  refine⟨_,?_,hr⟩
  simp[Instr.indexAt,asIntOf,run_underlying hu,h0,h1,zaw he,zby]
 ·rename_i oid oes xs
  obtain⟨h0,h1,h2⟩:=hc
  simp only[zak]at hx
  obtain⟨_,hx,a',cap',rfl,_⟩:=hx
  obtain⟨bb,off,cap,hv,hr⟩:=zjt (L:=L) (U:=U) hx (n:=n.toNat) (by omega)
  injection hv with hv1 hv2 hv3
  subst hv1
  rw[h2]at hr
  refine⟨_,?_,hr⟩
  simp[Instr.indexAt,asIntOf,run_underlying hu,h0,h1,zaw he,zby]
 ·rename_i id es s len
  obtain⟨h0,h1,h2⟩:=hc
  simp only[zak]at hx
  obtain⟨hU,a',cap,rfl,hle,_,hcap⟩:=hx
  rcases hcap with hcap|⟨rfl,_,hL,_⟩
  ·omega
  ·refine⟨.pointer (some ⟨(L id).1,(L id).2+s+n.toNat*te.size,none⟩),?_,?_⟩
   ·simp[Instr.indexAt,asIntOf,run_underlying hu,h0,h1,zaw he,zby]
   ·simp only[zak]
    exact⟨hU,hL,by rw[h2,Nat.add_assoc]⟩
theorem zo4 {t x i d c a b}(h:zeg P t x i=some (d,c))(hc:c)(hx:zak w L F U x a)(hi:zak w L F U i b):
  ∃v,(Instr.index t a b).run P w= .ok v w∧zak w L F U d v:=by
 unfold zeg at h
 split at h
 case h_2=>cases h
 rename_i ti l k n hti
 split at h
 case isFalse=>cases h
 rename_i hs
 simp only[Option.some.injEq,Prod.mk.injEq]at h
 obtain⟨rfl,rfl⟩:=h
 obtain⟨inf,z,u,g1,g2,g3,rfl⟩:=zaA hti
 have hu:P.underlying t=some .string:=by
  rw[g3];congr 1
  unfold TI.isStr at hs
  exact zsu (by revert hs;dsimp only;cases zdJ u<;>simp)
 obtain⟨rfl,_⟩:=zkh hi
 obtain⟨s,rfl,hd,hsz,hmax⟩:=vs hx
 obtain⟨h0,h1⟩:=hc
 have hlt:n.toNat<s.size:=by omega
 refine⟨.int .u8 (s[n.toNat].toNat),?_,?_⟩
 ·simp[Instr.index,asIntOf,run_underlying hu,h0,ByteArray.getElem?_lt' s _ hlt]
 ·have:l.getD n.toNat 0=s[n.toNat]:=by
   subst hd
   rw[List.getD_eq_getElem?_getD,List.getElem?_eq_getElem (by omega)]
   rfl
  rw[this]
  refine zbh ⟨?_,?_⟩
  ·simp[IntKind.min,IntKind.signed]
  ·have:=UInt8.toNat_lt s[n.toNat]
   simp[IntKind.max,IntKind.signed,IntKind.bits]
   omega
theorem zk3 {x i d c a}(h:zc6 x i=some (d,c))(hx:zak w L F U x a):
  ∃v,(Instr.extract a i).run P w= .ok v w∧zak w L F U d v:=by
 unfold zc6 at h
 split at h
 case h_2=>cases h
 rename_i ds
 split at h
 case h_2=>cases h
 rename_i d' hd
 simp only[Option.some.injEq,Prod.mk.injEq]at h
 obtain⟨rfl,rfl⟩:=h
 simp only[zak]at hx
 obtain⟨vs,rfl,hx⟩:=hx
 rw[zap.iff]at hx
 obtain⟨hl,hx⟩:=hx
 have hlt:i<ds.length:=by
  rcases Nat.lt_or_ge i ds.length with h|h
  ·exact h
  ·rw[List.getElem?_eq_none h]at hd;cases hd
 refine⟨vs.getD i undef,?_,?_⟩
 ·have:i<vs.length:=by omega
  simp[Instr.extract,this]
 ·have:=hx i hlt
  simpa[List.getD_eq_getElem?_getD,hd]using this
end
end Go.Abs
namespace Go.Abs
open Go
section
variable {P:Program} {G:Nat→List FD} {w:World} {L:Loc} {F:Nat→Nat→Prop} {U:Id→Prop} {H:zas}
theorem zei {ti:TI}(h:ti.isStr=true):ti.und= .str:=by
 unfold TI.isStr at h;revert h;cases ti.und<;>simp
theorem zb1 {ti:TI}(h:ti.isSlice=true):∃e,ti.und= .slice e:=by
 unfold TI.isSlice at h;revert h;cases ti.und<;>simp
theorem znM {ti:TI}{k}(h:ti.intK=some k):ti.und= .int k:=by
 unfold TI.intK at h;revert h;cases ti.und<;>simp
theorem zfL {t ti}(h:zaq P t=some ti)(hs:ti.und= .str):P.underlying t=some .string:=by
 obtain⟨i,z,u,_,_,g3,rfl⟩:=zaA h
 rw[g3,zsu hs]
theorem zcx {t ti e}(h:zaq P t=some ti)(hs:ti.und= .slice e):P.underlying t=some (.slice e):=by
 obtain⟨i,z,u,_,_,g3,rfl⟩:=zaA h
 rw[g3,zl1 hs]
theorem zod {t ti k}(h:zaq P t=some ti)(hs:ti.und= .int k):P.underlying t=some (.int k):=by
 obtain⟨i,z,u,_,_,g3,rfl⟩:=zaA h
 rw[g3,zwV hs]
theorem zue {t ti}(h:zaq P t=some ti):∃u,P.underlying t=some u:=by
 obtain⟨i,z,u,_,_,g3,_⟩:=zaA h
 exact⟨u,g3⟩
theorem zlk {n:Nat}(h:n≤zaZ):inK .i64 (n:Int):=by
 unfold zaZ at h
 refine⟨?_,?_⟩<;>simp[IntKind.min,IntKind.max,IntKind.signed,IntKind.bits]<;>omega
theorem zts {t x d c a}{ts:Array TypeId}{ty}(h:zk5 P t x=some (d,c))(hx:zak w L F U x a)(ht:ts[0]?=some t):
  ∃v,(Builtin.len_ ts ty #[a]).run P w= .ok v w∧zak w L F U d v:=by
 unfold zk5 at h
 split at h
 ·rename_i ti l hti
  split at h<;>simp only[Option.some.injEq,Prod.mk.injEq,reduceCtorEq]at h
  rename_i hs
  obtain⟨rfl,rfl⟩:=h
  obtain⟨s,rfl,hd,hsz,hmax⟩:=vs hx
  exact⟨_,by simp[Builtin.len_,ht,run_underlying (zfL hti (zei hs)),goInt,hsz],zbh (zlk hmax)⟩
 ·rename_i ti l hti
  split at h<;>simp only[Option.some.injEq,Prod.mk.injEq,reduceCtorEq]at h
  rename_i hs
  obtain⟨rfl,rfl⟩:=h
  obtain⟨e,he⟩:=zb1 hs
  simp only[zak]at hx
  obtain⟨a,cap,rfl,h1,h2,h3⟩:=hx.sl_inv
  exact⟨_,by simp[Builtin.len_,ht,run_underlying (zcx hti he),goInt],zbh (zlk h2)⟩
 ·rename_i ti l hti
  split at h<;>simp only[Option.some.injEq,Prod.mk.injEq,reduceCtorEq]at h
  rename_i hs
  obtain⟨rfl,rfl⟩:=h
  obtain⟨e,he⟩:=zb1 hs
  simp only[zak]at hx
  obtain⟨a,rfl,hx⟩:=hx
  obtain⟨a,cap,_,h1,h2,h3⟩:=hx.sl_inv
  exact⟨_,by simp[Builtin.len_,ht,run_underlying (zcx hti he),goInt],zbh (zlk h2)⟩
 ·rename_i ti oid oes l hti
  split at h<;>simp only[Option.some.injEq,Prod.mk.injEq,reduceCtorEq]at h
  rename_i hs
  obtain⟨rfl,rfl⟩:=h
  obtain⟨e,he⟩:=zb1 hs
  simp only[zak]at hx
  obtain⟨_,hx,_,_,rfl,_⟩:=hx
  obtain⟨a,cap,_,h1,h2,h3⟩:=hx.sl_inv
  exact⟨_,by simp[Builtin.len_,ht,run_underlying (zcx hti he),goInt],zbh (zlk h2)⟩
 ·rename_i ti id es s len hti
  split at h<;>simp only[Option.some.injEq,Prod.mk.injEq,reduceCtorEq]at h
  rename_i hs
  obtain⟨rfl,rfl⟩:=h
  obtain⟨e,he⟩:=zb1 hs
  simp only[zak]at hx
  obtain⟨_,a,cap,rfl,h1,h2,h3⟩:=hx
  exact⟨_,by simp[Builtin.len_,ht,run_underlying (zcx hti he),goInt],zbh (zlk h2)⟩
 ·cases h
theorem zqS {s t x d c a}(h:zdi P s t x=some (d,c))(hc:c)(hx:zak w L F U x a):
  ∃v,(convert s t a).run P w= .ok v w∧zak w L F U d v:=by
 unfold zdi at h
 split at h
 ·rename_i si ti k n hs ht
  split at h<;>simp only[Option.some.injEq,Prod.mk.injEq,reduceCtorEq]at h
  rename_i k' hk
  obtain⟨rfl,rfl⟩:=h
  obtain⟨u,hu⟩:=zue hs
  rw[(zkh hx).1]
  exact⟨_,by simp[convert,run_underlying hu,run_underlying (zod ht (znM hk)),Conv.intToInt,ze8 hc],zbh hc⟩
 ·rename_i si ti l hs ht
  split at h<;>simp only[Option.some.injEq,Prod.mk.injEq,reduceCtorEq]at h
  rename_i hb
  obtain⟨rfl,rfl⟩:=h
  simp only[Bool.and_eq_true]at hb
  obtain⟨str,rfl,hd,hsz,hmax⟩:=vs hx
  exact⟨_,by simp[convert,run_underlying (zfL hs (zei hb.1)),run_underlying (zfL ht (zei hb.2))],zpI hd hmax⟩
 ·rename_i si ti n hs ht
  split at h
  ·rename_i hk
   split at h<;>simp only[Option.some.injEq,Prod.mk.injEq,reduceCtorEq]at h
   rename_i hb
   obtain⟨rfl,rfl⟩:=h
   obtain⟨te,h1,h2⟩:=Option.bind_eq_some_iff.1 hk
   obtain⟨e,he,hte⟩:=za0 h1
   simp only[zak]at hx
   obtain⟨a0,rfl,hx2⟩:=hx
   obtain⟨a',cap,e1,_,_,hx3⟩:=hx2.sl_inv
   obtain⟨b,off,es,vs,rfl,_,h5,h6,h7⟩:=hx3 (by simp)
   simp only[Value.slice.injEq]at e1
   obtain⟨rfl,_,_⟩:=e1
   have hes:es=1:=by have:=h5 0 (by simp);simpa[FD.cells]using this.symm
   subst hes
   have h8:=h7 0 0 (by simp) (by omega)
   simp only[List.getD_cons_zero,FD.cells]at h8
   have h9:=h6 0 0 (by simp) (by omega)
   rw[h8.int_inv.1]at h9
   have h10:(loadCells ⟨b,off,none⟩ 1).run P w= .ok #[Value.int .u8 n] w:=by
    have:=run_loadCells (P:=P) (w:=w) ⟨b,off,none⟩ 1 (fun _=>Value.int .u8 n) (fun j hj=>by
     obtain rfl:j=0:=by omega
     simpa[World.at,Addr.add]using h9)
    simpa using this
   refine⟨.string (ByteArray.empty.push (UInt8.ofNat n.toNat)),?_,zpI rfl (by unfold zaZ;simp)⟩
   simp[convert,run_underlying he,run_underlying (zod hte (znM h2)),run_underlying (zfL ht (zei hb)),Conv.bytesToString,h10]
  ·cases h
 ·cases h
theorem zfo {lo:Option D}{l:Int}(h:zbw lo=some l){a:Option Value}(ha:∀x,lo=some x→∃v,a=some v∧zak w L F U x v)(hn:lo=none→a=none):
  (lo=none∧a=none∧l=0)∨∃k,a=some (.int k l):=by
 cases lo with
 |none=>simp[zbw]at h;exact .inl ⟨rfl,hn rfl,h.symm⟩
 |some x=>
  obtain⟨v,rfl,hv⟩:=ha x rfl
  simp only[zbw]at h
  split at h<;>simp_all
  exact⟨_,(zkh hv).1⟩
theorem zef {len:Nat}{hi:Option D}{l:Int}(h:zaT len hi=some l){a:Option Value}(ha:∀x,hi=some x→∃v,a=some v∧zak w L F U x v)(hn:hi=none→a=none):
  (hi=none∧a=none∧l=len)∨∃k,a=some (.int k l):=by
 cases hi with
 |none=>simp[zaT]at h;exact .inl ⟨rfl,hn rfl,h.symm⟩
 |some x=>
  obtain⟨v,rfl,hv⟩:=ha x rfl
  simp only[zaT]at h
  split at h<;>simp_all
  exact⟨_,(zkh hv).1⟩
theorem zcY {isS:Bool}{len cap:Nat}{a b:Option Value}{l h:Int}(ha:(a=none∧l=0)∨∃k,a=some (.int k l))(hb:(b=none∧h=len)∨∃k,b=some (.int k h))
  (h0:0≤l)(h1:l≤h)(h2:h≤len)(hcap:len≤cap):
  (Instr.sliceBounds isS len cap a b none).run P w= .ok (l.toNat,h.toNat,cap) w:=by
 have hh:0≤h:=by omega
 rcases ha with⟨rfl,rfl⟩|⟨k,rfl⟩<;>rcases hb with⟨rfl,rfl⟩|⟨k',rfl⟩
 ·simp[Instr.sliceBounds]
 ·simp[Instr.sliceBounds,Instr.sliceBound,asIntOf,hh,show h≤cap by omega]
 ·simp[Instr.sliceBounds,Instr.sliceBound,asIntOf,h0,h1]
 ·simp[Instr.sliceBounds,Instr.sliceBound,asIntOf,hh,h0,show h≤cap by omega,show(l≤max h 0) by omega]
theorem ze3 {len cap:Nat}{a b:Option Value}{l h:Int}{km kh:IntKind}(ha:(a=none∧l=0)∨∃k,a=some (.int k l))(hb:b=some (.int kh h))
  (h0:0≤l)(h1:l≤h)(h2:h≤len)(hcap:len≤cap):
  (Instr.sliceBounds true len cap a b (some (.int km h))).run P w= .ok (l.toNat,h.toNat,h.toNat) w:=by
 have hh:0≤h:=by omega
 subst hb
 rcases ha with⟨rfl,rfl⟩|⟨k,rfl⟩
 ·simp[Instr.sliceBounds,Instr.sliceBound,asIntOf,hh,show h≤cap by omega]
  intro hx;omega
 ·simp[Instr.sliceBounds,Instr.sliceBound,asIntOf,hh,h0,show h≤cap by omega,show(l≤max h 0) by omega]
  intro hx;omega
theorem zeb {xs:List FD}{l h:Int}(h0:0≤l)(h1:l≤h)(h2:h≤xs.length):(zbo xs l h).length=h.toNat-l.toNat:=by
 simp[zbo];omega
theorem ziy {xs:List FD}{l h:Int}{i:Nat}(hi:i<(zbo xs l h).length):(zbo xs l h).getD i .nilf=xs.getD (l.toNat+i) .nilf:=by
 simp only[zbo,List.length_drop,List.length_take]at hi
 simp only[zbo,List.getD_eq_getElem?_getD,List.getElem?_drop]
 rw[List.getElem?_take_of_lt (by omega)]
theorem zdS {xs:List FD}{a:Option Addr}{len cap m:Nat}{l h:Int}{size:Nat}(hx:zbn w F (.slice a len cap) (.sl xs))(h0:0≤l)(h1:l≤h)(h2:h≤xs.length)
  (hs:l=0∨l=h∨(xs.getD l.toNat .nilf).cells.length=size)(hm:h.toNat≤m):
  zbn w F (.slice (if m=l.toNat then a else a.map (·.add (l.toNat*size))) (h.toNat-l.toNat) (m-l.toNat)) (.sl (zbo xs l h)):=by
 obtain⟨a',cap',he,h3,h4,h5⟩:=hx.sl_inv
 injection he with e1 e2 e3
 subst e1;subst e2;subst e3
 have hlen:=zeb h0 h1 h2
 have key:=zbn.sl_mk (w:=w) (F:=F) (xs:=zbo xs l h) (a:=if m=l.toNat then a else a.map (·.add (l.toNat*size))) (cap:=m-l.toNat) (by omega) (by omega) (fun hpos=>?_)
 ·rwa [hlen]at key
 obtain⟨b,off,es,vs,rfl,hF,hes,hcs,hrep⟩:=h5 (by omega)
 have hml:¬m=l.toNat:=by omega
 have hsz:l.toNat*size=l.toNat*es:=by
  rcases hs with hs|hs|hs
  ·subst hs;simp
  ·omega
  ·rw[←hs,hes _ (by omega)]
 refine⟨b,off+l.toNat*es,es,fun i j=>vs (l.toNat+i) j,by simp[hml,zby,hsz],fun k hk=>?_,fun i hi=>?_,fun i j hi hj=>?_,fun i j hi hj=>?_⟩
 ·rw[Nat.add_assoc]
  refine hF _ ?_
  rw[hlen]at hk
  calc l.toNat*es+k<l.toNat*es+(h.toNat-l.toNat)*es:=by omega
   _=(l.toNat+(h.toNat-l.toNat))*es:=(Nat.add_mul _ _ _).symm
   _≤xs.length*es:=Nat.mul_le_mul_right _ (by omega)
 all_goals have hi':l.toNat+i<xs.length:=by omega
 ·rw[ziy hi];exact hes _ hi'
 ·have:=hcs (l.toNat+i) j hi' hj
  rw[Nat.add_mul]at this
  rw[←this];congr 1;omega
 ·rw[ziy hi];exact hrep _ _ hi' hj
theorem zo5 {t x lo hi mx d c a la ha ma}(h:zaF P t x lo hi mx=some (d,c))(hc:c)(hx:zak w L F U x a)
  (hla:∀x,lo=some x→∃v,la=some v∧zak w L F U x v)(hln:lo=none→la=none)
  (hha:∀x,hi=some x→∃v,ha=some v∧zak w L F U x v)(hhn:hi=none→ha=none)
  (hma:∀x,mx=some x→∃v,ma=some v∧zak w L F U x v)(hmn:mx=none→ma=none):
  ∃v,(Instr.sliceAt t a la ha ma).run P w= .ok v w∧zak w L F U d v:=by
 unfold zaF at h
 split at h
 ·
  rename_i ti s hti
  split at h
  case isFalse=>cases h
  rename_i hs
  have hu:=zfL hti (zei hs)
  split at h<;>simp only[Option.some.injEq,Prod.mk.injEq,reduceCtorEq]at h
  rename_i l hh hl hhi
  obtain⟨rfl,rfl⟩:=h
  obtain⟨h0,h1,h2⟩:=hc
  rw[hmn rfl]
  obtain⟨str,rfl,hd,hsz,hmax⟩:=vs hx
  have el:=zfo (w:=w) (L:=L) (F:=F) (U:=U) hl hla hln
  have eh:=zef (w:=w) (L:=L) (F:=F) (U:=U) hhi hha hhn
  have hb:=zcY (P:=P) (w:=w) (isS:=false) (len:=str.size) (cap:=str.size) (a:=la) (b:=ha) (l:=l) (h:=hh)
   (el.imp (fun h=>h.2) id) (eh.imp (fun h=>⟨h.2.1,by rw[h.2.2,hsz]⟩) id) h0 h1 (by omega) (Nat.le_refl _)
  refine⟨.string (str.extract l.toNat hh.toNat),?_,zpI ?_ ?_⟩
  ·simp[Instr.sliceAt,run_underlying hu,Instr.slice,hb]
  ·rw[←hd];simp[ByteArray.data_extract,List.extract_eq_take_drop,List.drop_take]
  ·simp;omega
 ·rename_i ti xs hti
  split at h
  case h_2=>cases h
  rename_i te l hh hte hl hhi
  obtain⟨e,hu,he⟩:=za0 hte
  simp only[zak]at hx
  obtain⟨aa,cap,rfl,g1,g2,_⟩:=hx.sl_inv
  have el:=zfo (w:=w) (L:=L) (F:=F) (U:=U) hl hla hln
  have eh:=zef (w:=w) (L:=L) (F:=F) (U:=U) hhi hha hhn
  split at h
  ·simp only[Option.some.injEq,Prod.mk.injEq]at h
   obtain⟨rfl,rfl⟩:=h
   obtain⟨h0,h1,h2,h3⟩:=hc
   rw[hmn rfl]
   have hb:=zcY (P:=P) (w:=w) (isS:=true) (len:=xs.length) (cap:=cap) (a:=la) (b:=ha) (l:=l) (h:=hh)
    (el.imp (fun h=>h.2) id) (eh.imp (fun h=>h.2) id) h0 h1 h2 g1
   refine⟨_,by simp[Instr.sliceAt,run_underlying hu,Instr.slice,hb,zaw he];rfl,?_⟩
   simp only[zak]
   exact zdS hx h0 h1 h2 h3 (by omega)
  ·simp only[Option.some.injEq,Prod.mk.injEq]at h
   obtain⟨rfl,rfl⟩:=h
   rename_i km m hx3
   obtain⟨h0,h1,h2,hm3,h3⟩:=hc
   obtain⟨mv,rfl,hmv⟩:=hma _ rfl
   rw[(zkh hmv).1,hm3]
   rcases eh with⟨e1,_⟩|⟨kh,rfl⟩
   ·cases e1
   have hb:=ze3 (P:=P) (w:=w) (len:=xs.length) (cap:=cap) (a:=la) (l:=l) (h:=hh) (km:=km) (kh:=kh)
    (el.imp (fun h=>h.2) id) rfl h0 h1 h2 g1
   refine⟨_,by simp[Instr.sliceAt,run_underlying hu,Instr.slice,hb,zaw he];rfl,?_⟩
   simp only[zak]
   rw[zeb h0 h1 h2]
   exact⟨_,rfl,zdS hx h0 h1 h2 h3 (Nat.le_refl _)⟩
  ·cases h
 ·rename_i ti xs hti
  split at h
  case h_2=>cases h
  rename_i te l hh hte hl hhi
  obtain⟨e,hu,he⟩:=za0 hte
  simp only[zak]at hx
  obtain⟨aa,rfl,hx⟩:=hx
  have g1:xs.length≤xs.length:=Nat.le_refl _
  have el:=zfo (w:=w) (L:=L) (F:=F) (U:=U) hl hla hln
  have eh:=zef (w:=w) (L:=L) (F:=F) (U:=U) hhi hha hhn
  split at h
  ·simp only[Option.some.injEq,Prod.mk.injEq]at h
   obtain⟨rfl,rfl⟩:=h
   obtain⟨h0,h1,h3⟩:=hc
   rw[hmn rfl]
   rw[hhn rfl]
   have h2:hh=xs.length:=by simpa[zaT]using hhi.symm
   subst h2
   have hb:=zcY (P:=P) (w:=w) (isS:=true) (len:=xs.length) (cap:=xs.length) (a:=la) (b:=none) (l:=l) (h:=xs.length)
    (el.imp (fun h=>h.2) id) (.inl ⟨rfl,rfl⟩) h0 h1 (by omega) g1
   refine⟨_,by simp[Instr.sliceAt,run_underlying hu,Instr.slice,hb,zaw he];rfl,?_⟩
   simp only[zak]
   rw[zeb h0 h1 (by omega)]
   exact⟨_,rfl,zdS hx h0 h1 (by omega) h3 (by omega)⟩
  ·simp only[Option.some.injEq,Prod.mk.injEq]at h
   obtain⟨rfl,rfl⟩:=h
   obtain⟨h0,h1,h2,h3⟩:=hc
   rw[hmn rfl]
   have hb:=zcY (P:=P) (w:=w) (isS:=true) (len:=xs.length) (cap:=xs.length) (a:=la) (b:=ha) (l:=l) (h:=hh)
    (el.imp (fun h=>h.2) id) (eh.imp (fun h=>h.2) id) h0 h1 h2 g1
   refine⟨_,by simp[Instr.sliceAt,run_underlying hu,Instr.slice,hb,zaw he];rfl,?_⟩
   simp only[zak]
   exact zdS hx h0 h1 h2 h3 (by omega)
  ·simp only[Option.some.injEq,Prod.mk.injEq]at h
   obtain⟨rfl,rfl⟩:=h
   rename_i km m hx3
   obtain⟨h0,h1,h2,hm3,h3⟩:=hc
   obtain⟨mv,rfl,hmv⟩:=hma _ rfl
   rw[(zkh hmv).1,hm3]
   rcases eh with⟨e1,_⟩|⟨kh,rfl⟩
   ·cases e1
   have hb:=ze3 (P:=P) (w:=w) (len:=xs.length) (cap:=xs.length) (a:=la) (l:=l) (h:=hh) (km:=km) (kh:=kh)
    (el.imp (fun h=>h.2) id) rfl h0 h1 h2 g1
   refine⟨_,by simp[Instr.sliceAt,run_underlying hu,Instr.slice,hb,zaw he];rfl,?_⟩
   simp only[zak]
   rw[zeb h0 h1 h2]
   exact⟨_,rfl,zdS hx h0 h1 h2 h3 (Nat.le_refl _)⟩
  ·cases h
 ·rename_i ti oid oes xs hti
  split at h
  case h_2=>cases h
  rename_i te l hh hte hl hhi
  obtain⟨e,hu,he⟩:=za0 hte
  simp only[zak]at hx
  obtain⟨_,hx,aa0,cap0,hv0,_⟩:=hx
  obtain⟨aa,cap,hv,g1,g2,_⟩:=hx.sl_inv
  subst hv
  have el:=zfo (w:=w) (L:=L) (F:=F) (U:=U) hl hla hln
  have eh:=zef (w:=w) (L:=L) (F:=F) (U:=U) hhi hha hhn
  split at h
  ·simp only[Option.some.injEq,Prod.mk.injEq]at h
   obtain⟨rfl,rfl⟩:=h
   obtain⟨h0,h1,h2,h3⟩:=hc
   rw[hmn rfl]
   have hb:=zcY (P:=P) (w:=w) (isS:=true) (len:=xs.length) (cap:=cap) (a:=la) (b:=ha) (l:=l) (h:=hh)
    (el.imp (fun h=>h.2) id) (eh.imp (fun h=>h.2) id) h0 h1 h2 g1
   refine⟨_,by simp[Instr.sliceAt,run_underlying hu,Instr.slice,hb,zaw he];rfl,?_⟩
   simp only[zak]
   exact zdS hx h0 h1 h2 h3 (by omega)
  ·simp only[Option.some.injEq,Prod.mk.injEq]at h
   obtain⟨rfl,rfl⟩:=h
   rename_i km m hx3
   obtain⟨h0,h1,h2,hm3,h3⟩:=hc
   obtain⟨mv,rfl,hmv⟩:=hma _ rfl
   rw[(zkh hmv).1,hm3]
   rcases eh with⟨e1,_⟩|⟨kh,rfl⟩
   ·cases e1
   have hb:=ze3 (P:=P) (w:=w) (len:=xs.length) (cap:=cap) (a:=la) (l:=l) (h:=hh) (km:=km) (kh:=kh)
    (el.imp (fun h=>h.2) id) rfl h0 h1 h2 g1
   refine⟨_,by simp[Instr.sliceAt,run_underlying hu,Instr.slice,hb,zaw he];rfl,?_⟩
   simp only[zak]
   rw[zeb h0 h1 h2]
   exact⟨_,rfl,zdS hx h0 h1 h2 h3 (Nat.le_refl _)⟩
  ·cases h
 ·rename_i ti aid es s len hti
  split at h<;>simp only[Option.some.injEq,Prod.mk.injEq,reduceCtorEq]at h
  rename_i te l hh hte hl hhi
  obtain⟨rfl,rfl⟩:=h
  obtain⟨e,hu,he⟩:=za0 hte
  obtain⟨h0,h1,h2,h3⟩:=hc
  simp only[zak]at hx
  obtain⟨hU,aa,cap,rfl,g1,g2,g3⟩:=hx
  rw[hmn rfl]
  have el:=zfo (w:=w) (L:=L) (F:=F) (U:=U) hl hla hln
  have eh:=zef (w:=w) (L:=L) (F:=F) (U:=U) hhi hha hhn
  have hb:=zcY (P:=P) (w:=w) (isS:=true) (len:=len) (cap:=cap) (a:=la) (b:=ha) (l:=l) (h:=hh)
   (el.imp (fun h=>h.2) id) (eh.imp (fun h=>h.2) id) h0 h1 h2 g1
  refine⟨_,by simp[Instr.sliceAt,run_underlying hu,Instr.slice,hb,zaw he];rfl,?_⟩
  simp only[zak]
  refine⟨hU,_,_,by congr 1;omega,by omega,by omega,?_⟩
  by_cases hcl:cap=l.toNat
  ·exact .inl (by omega)
  ·rcases g3 with g3|⟨rfl,g6,g4,g5⟩
   ·omega
   ·refine .inr ⟨by simp[hcl,zby,h3,Nat.add_assoc],g6,g4,fun cs T fr hcs=>?_⟩
    have:=g5 cs T fr hcs
    have e1:(cap-l.toNat)*es+l.toNat*es=cap*es:=by rw[←Nat.add_mul];congr 1;omega
    omega
 ·cases h
end
end Go.Abs
namespace Go.Abs
open Go
section
variable {P:Program} {G:Nat→List FD} {w:World} {L:Loc} {F:Nat→Nat→Prop} {U:Id→Prop} {H:zas}
theorem zok (v:Value):zak w L F U (znc v) v:=by
 unfold znc
 split
 ·exact zdv _
 ·rename_i k n
  split
  ·rename_i h;subst h
   exact zbh ⟨by cases k<;>decide,by cases k<;>decide⟩
  ·simp[zak]
 ·rename_i s
  split
  ·rename_i h
   refine zpI ?_ (by simp[zaZ])
   have h2:s.data.size=0:=h
   exact List.length_eq_zero_iff.1 (by rw[Array.length_toList];exact h2)
  ·simp[zak]
 ·simp only[zak]
  exact⟨none,rfl,.sl0 none 0⟩
 ·simp only[zak];exact .nilf
 ·simp[zak]
theorem zol (z:Value):zap w L F U (z.cells.toList.map znc) z.cells.toList:=by
 generalize z.cells.toList=l
 induction l with
 |nil=>simp[zap]
 |cons v l ih=>simp only[List.map_cons,zap];exact⟨zok v,ih⟩
theorem zsD {ds:List D}{vs:List Value}(h:zap w L F U ds vs)(k:Nat){d:D}{v:Value}(hd:zak w L F U d v):zap w L F U (ds.set k d) (vs.set k v):=by
 rw[zap.iff]at h ⊢
 obtain⟨h1,h2⟩:=h
 refine⟨by simp[h1],fun j hj=>?_⟩
 have hj':j<ds.length:=by simpa using hj
 by_cases e:k=j
 ·subst e
  simpa[List.getD_eq_getElem?_getD,List.getElem?_set,hj',h1]using hd
 ·simpa[List.getD_eq_getElem?_getD,List.getElem?_set,e]using h2 j hj'
theorem zgt:∀(new:List D) (nv:List Value) (i off:Nat) (ds:List D) (vs:Array Value),zap w L F U new nv→zap w L F U ds vs.toList→
  zap w L F U ((new.zipIdx i).foldl (fun cs p=>cs.set (off+p.2) p.1) ds) ((nv.zipIdx i).foldl (fun cs (p:Value×Nat)=>cs.setIfInBounds (off+p.2) p.1) vs).toList
 |[],[],_,_,_,_,_,h=>by simpa using h
 |d::new,v::nv,i,off,ds,vs,hn,h=>by
  simp only[zap]at hn
  simp only[List.zipIdx_cons,List.foldl_cons]
  refine zgt new nv (i+1) off _ _ hn.2 ?_
  rw[Array.toList_setIfInBounds]
  exact zsD h _ hn.1
 |[],_::_,_,_,_,_,hn,_=>hn.elim
 |_::_,[],_,_,_,_,hn,_=>hn.elim
theorem zlJ (cells:List D)(off:Nat)(new:List D):(zcT cells off new).length=cells.length:=by
 unfold zcT
 generalize new.zipIdx=l
 induction l generalizing cells with
 |nil=>rfl
 |cons x l ih=>simp[ih]
theorem zk4 {fs:Array Field}:∀(ps:List (Nat×D)) (pv:List (Nat×Value)) (cells:List D) (vs:Array Value) (ds:List D) (c:Prop),
  zc7 P (fs.toList.map fun f=>(f.offset,f.type)) cells ps=some (ds,c)→c→zap w L F U cells vs.toList→
  pv.length=ps.length→(∀(j:Nat) (p:Nat×D) (q:Nat×Value),ps[j]?=some p→pv[j]?=some q→p.1=q.1∧p.2≠D.junk∧zak w L F U p.2 q.2)→
  ∃us,Instr.fill ((fs.map fun f=>(f.offset,(zaq P f.type).elim 0 TI.size))[·]?) vs pv=some us∧zap w L F U ds us.toList
 |[],pv,cells,vs,ds,c,h,_,hv,hl,_=>by
  obtain rfl:pv=[]:=List.length_eq_zero_iff.1 hl
  simp only[zc7,Option.some.injEq,Prod.mk.injEq]at h
  obtain⟨rfl,_⟩:=h
  exact⟨vs,rfl,hv⟩
 |(i,d)::ps,[],cells,vs,ds,c,h,_,hv,hl,_=>by simp at hl
 |(i,d)::ps,(i',v)::pv,cells,vs,ds,c,h,hc,hv,hl,hp=>by
  obtain⟨e1,e2,e3⟩:=hp 0 (i,d) (i',v) rfl rfl
  dsimp only at e1 e2 e3
  subst e1
  simp only[zc7]at h
  split at h
  case h_1=>cases h
  rename_i off ft hi
  split at h
  case h_1=>cases h
  rename_i fi hfi
  split at h
  case h_2=>cases h
  rename_i cs c' hrest
  simp only[Option.some.injEq,Prod.mk.injEq]at h
  obtain⟨rfl,rfl⟩:=h
  obtain⟨⟨h1,h2⟩,h3⟩:=hc
  have hcs:=zak.cs e3 e2
  have hlen:v.cells.size=fi.size:=by
   have:=((zap.iff _ _).1 hcs).1
   simp at this;omega
  have hvl:vs.size=cells.length:=by
   have:=((zap.iff _ _).1 hv).1
   simpa using this
  have hset:=zgt d.cs v.cells.toList 0 off cells vs hcs hv
  obtain⟨us,hu1,hu2⟩:=zk4 ps pv (zcT cells off d.cs) _ cs c' hrest h3 hset (by simpa using hl) (fun j p q hj hq=>hp (j+1) p q (by simpa using hj) (by simpa using hq))
  refine⟨us,?_,hu2⟩
  have hf:(fs.map fun f=>(f.offset,(zaq P f.type).elim 0 TI.size))[i]?=some (off,fi.size):=by
   simp only[List.getElem?_map,Option.map_eq_some_iff,Prod.mk.injEq]at hi
   obtain⟨f,g1,g2,g3⟩:=hi
   have:fs[i]?=some f:=by simpa using g1
   simp[this,g2,g3,hfi]
  simp only[Instr.fill,hf]
  rw[if_neg (by simp;omega)]
  rw[←hu1]
  congr 1
  rw[←Array.foldl_toList,Array.toList_zipIdx]
theorem zpA {fs:Array Field}(h:∀f∈fs.toList,∃fi,zaq P f.type=some fi):
  (fs.mapM fun f=>(do pure (f.offset,←sizeOf f.type):Sem (Nat×Nat))).run P w= .ok (fs.map fun f=>(f.offset,(zaq P f.type).elim 0 TI.size)) w:=by
 rw[←Array.toArray_toList (xs:=fs)]at*
 generalize fs.toList=l at*
 rw[List.mapM_toArray]
 have:(l.mapM fun f=>(do pure (f.offset,←sizeOf f.type):Sem (Nat×Nat))).run P w= .ok (l.map fun f=>(f.offset,(zaq P f.type).elim 0 TI.size)) w:=by
  induction l with
  |nil=>simp
  |cons f l ih=>
   obtain⟨fi,hfi⟩:=h f (by simp)
   simp only[List.mapM_cons,Sem.run_bind,zaw hfi,Result.andThen_ok,Sem.run_pure]
   rw[ih (fun g hg=>h g (by simpa using .inr (by simpa using hg)))]
   simp[hfi]
 simp only[Sem.run_map,this,Result.andThen_ok,List.map_toArray]
theorem zgO {d:D}(h:d.known=true):d≠ .junk:=by
 rintro rfl;simp[D.known]at h
theorem zoZ {t d c}{ps:Array (Nat×Operand)}{ev:Operand→D}{ρ:Operand→Value}(h:zed P t (ps.toList.map fun p=>(p.1,ev p.2))=some (d,c))(hc:c)
  (hk:ps.toList.all (fun p=>(ev p.2).known)=true)(hr:∀x,zak w L F U (ev x) (ρ x)):
  ∃v,(Instr.build t (ps.map fun(i,x)=>(i,ρ x))).run P w= .ok v w∧zak w L F U d v:=by
 unfold zed at h
 split at h
 case h_2=>cases h
 rename_i ti hti
 split at h
 case h_2=>cases h
 rename_i fs hfs
 split at h
 case isFalse=>cases h
 rename_i hall
 split at h
 case h_2=>cases h
 rename_i cs c' hfill
 simp only[Option.some.injEq,Prod.mk.injEq]at h
 obtain⟨rfl,rfl⟩:=h
 obtain⟨inf,z,u,g1,g2,g3,rfl⟩:=zaA hti
 obtain⟨fs',rfl,rfl⟩:=zge hfs
 have hfields:∀f∈fs'.toList,∃fi,zaq P f.type=some fi:=by
  intro f hf
  simp only[List.all_map,List.all_eq_true]at hall
  exact Option.isSome_iff_exists.1 (hall f hf)
 obtain⟨us,hu1,hu2⟩:=zk4 (w:=w) (L:=L) (F:=F) (U:=U) _ (ps.toList.map fun p=>(p.1,ρ p.2)) _ z.cells cs c' hfill hc (zol z) (by simp)
  (fun j p q hp hq=>by
   simp only[List.getElem?_map,Option.map_eq_some_iff]at hp hq
   obtain⟨a,ha,rfl⟩:=hp
   obtain⟨b,hb,rfl⟩:=hq
   rw[ha]at hb
   obtain rfl:=Option.some.inj hb
   exact⟨rfl,zgO (by rw[List.all_eq_true]at hk;exact hk a (List.mem_of_getElem? ha)),hr _⟩)
 refine⟨.agg us,?_,?_⟩
 ·have hz:(zeroValue t).run P w= .ok z w:=by simp[zeroValue,typeInfo,g1,g2]
  have hm:(ps.map fun(i,x)=>(i,ρ x)).toList=ps.toList.map fun p=>(p.1,ρ p.2):=by simp
  simp only[Instr.build,Sem.run_bind,hz,Result.andThen_ok,run_underlying g3,zpA hfields,hm,hu1,Sem.run_pure]
 ·simp only[zak]
  exact⟨us.toList,by simp,hu2⟩
end
end Go.Abs
namespace Go.Abs
open Go
section
variable {P:Program} {G:Nat→List FD} {w:World} {L:Loc} {F:Nat→Nat→Prop} {U:Id→Prop} {H:zas}
theorem zqT {x y z d c a b e}(h:zfp x y z=some (d,c))(hx:zak w L F U x a)(hy:zak w L F U y b)(hz:zak w L F U z e):
  ∃t,a= .bool t∧zak w L F U d (if t then b else e):=by
 unfold zfp at h
 split at h<;>simp only[Option.some.injEq,Prod.mk.injEq,reduceCtorEq]at h
 rename_i t
 obtain⟨rfl,rfl⟩:=h
 refine⟨t,vb hx,?_⟩
 cases t
 ·simpa using hz
 ·simpa using hy
theorem zvY {k:IntKind}{a b:Int}(ha:inK k a)(hb:inK k b):inK k (max a b):=by
 unfold inK at*;omega
theorem zvZ {k:IntKind}{a b:Int}(ha:inK k a)(hb:inK k b):inK k (min a b):=by
 unfold inK at*;omega
theorem zri {ev:Operand→D}{args:Array Operand}{x:D}(h:args.toList.map ev=[x]):∃o,args= #[o]∧ev o=x:=by
 cases args with
 |mk l=>
  match l,h with
  |[o],h=>exact⟨o,rfl,by simpa using h⟩
theorem zlq {ev:Operand→D}{args:Array Operand}{x y:D}(h:args.toList.map ev=[x,y]):∃o p,args= #[o,p]∧ev o=x∧ev p=y:=by
 cases args with
 |mk l=>
  match l,h with
  |[o,p],h=>exact⟨o,p,rfl,by simpa using h⟩
theorem zk2 {b:Builtin}{ts:Array TypeId}{args:Array Operand}{ty:TypeId}{ev:Operand→D}{ρ:Operand→Value}{d c}
  (h:zaN P b ts (args.toList.map ev)=some (d,c))(hc:c)(hr:∀x,zak w L F U (ev x) (ρ x)):
  ∃v,(∀cs,(builtin b ts ty cs (args.map ρ)).run P w= .ok (.value v) w)∧zak w L F U d v:=by
 unfold zaN at h
 split at h
 ·rename_i x hx
  obtain⟨o,rfl,rfl⟩:=zri hx
  split at h
  case h_2=>cases h
  rename_i t ht
  obtain⟨v,h1,h2⟩:=zts (ty:=ty) h (hr o) ht
  exact⟨v,fun cs=>by simp[builtin,h1],h2⟩
 ·rename_i k a k' b' hx
  obtain⟨o,p,rfl,ho,hp⟩:=zlq hx
  simp only[Option.some.injEq,Prod.mk.injEq]at h
  obtain⟨rfl,rfl⟩:=h
  subst hc
  have h1:=hr o;rw[ho]at h1
  have h2:=hr p;rw[hp]at h2
  obtain⟨e1,i1⟩:=zkh h1
  obtain⟨e2,i2⟩:=zkh h2
  refine⟨.int k (max a b'),?_,zbh (zvY i1 i2)⟩
  have:(if b'>a then b' else a)=max a b':=by rw[Int.max_def];split<;>split<;>omega
  intro cs;simp[builtin,e1,e2,run_max_int2,←this]
 ·rename_i k a k' b' hx
  obtain⟨o,p,rfl,ho,hp⟩:=zlq hx
  simp only[Option.some.injEq,Prod.mk.injEq]at h
  obtain⟨rfl,rfl⟩:=h
  subst hc
  have h1:=hr o;rw[ho]at h1
  have h2:=hr p;rw[hp]at h2
  obtain⟨e1,i1⟩:=zkh h1
  obtain⟨e2,i2⟩:=zkh h2
  refine⟨.int k (min a b'),?_,zbh (zvZ i1 i2)⟩
  have:(if b'<a then b' else a)=min a b':=by rw[Int.min_def];split<;>split<;>omega
  intro cs;simp[builtin,e1,e2,run_min_int2,←this]
 ·cases h
theorem zap.map {ev:Operand→D}{ρ:Operand→Value}(hr:∀x,zak w L F U (ev x) (ρ x))(l:List Operand):zap w L F U (l.map ev) (l.map ρ):=by
 induction l with
 |nil=>simp[zap]
 |cons a l ih=>simp only[List.map_cons,zap];exact⟨hr a,ih⟩
theorem ztw {o:Oper}{ev:Operand→D}{ρ:Operand→Value}{d c}(h:za7 P o ev H=some (d,c))(hc:c)(hok:OkW G w L F U H)(hr:∀x,zak w L F U (ev x) (ρ x)):
  ∃v,(execOp ρ o).run P w= .ok (.value v) w∧zak w L F U d v:=by
 have lift:∀{s:Sem Value} {v:Value},s.run P w= .ok v w→(do pure (.value (←s)):Sem Next).run P w= .ok (.value v) w:=fun hs=>by simp[hs]
 unfold za7 at h
 split at h
 case h_1 x heq=>
  simp only[Option.some.injEq,Prod.mk.injEq]at h;obtain⟨rfl,rfl⟩:=h
  exact⟨_,by simp[execOp,heq],hr _⟩
 case h_2 x heq=>
  simp only[Option.some.injEq,Prod.mk.injEq]at h;obtain⟨rfl,rfl⟩:=h
  exact⟨_,by simp[execOp,heq],hr _⟩
 case h_3 x y z heq=>
  obtain⟨t,ht,hv⟩:=zqT h (hr x) (hr y) (hr z)
  exact⟨_,by simp[execOp,heq,ht,asBool],hv⟩
 case h_4 t ps heq=>
  split at h
  case isFalse=>cases h
  rename_i hk
  obtain⟨v,h1,h2⟩:=zoZ h hc hk hr
  exact⟨v,by simp only[execOp,heq];exact lift h1,h2⟩
 case h_5 t a heq=>
  obtain⟨v,h1,h2⟩:=zk6 h hc hok (hr a)
  exact⟨v,by simp only[execOp,heq];exact lift h1,h2⟩
 case h_6 x heq=>
  obtain⟨⟨p,hp⟩,h2⟩:=ztt h (hr x)
  exact⟨_,by simp[execOp,heq,hp],hp▸h2⟩
 case h_7 op t x y _ heq=>
  obtain⟨v,h1,h2⟩:=ztl (X:=x) (Y:=y) h hc (hr x) (hr y)
  exact⟨v,by simp only[execOp,heq];exact lift h1,h2⟩
 case h_8 op _ x heq=>
  obtain⟨v,h1,h2⟩:=zvK h hc (hr x)
  exact⟨v,by simp only[execOp,heq];exact lift h1,h2⟩
 case h_9 s t x heq=>
  obtain⟨v,h1,h2⟩:=zqS h hc (hr x)
  exact⟨v,by simp only[execOp,heq];exact lift h1,h2⟩
 case h_10 f first caps heq=>
  split at h
  case isFalse=>cases h
  rename_i hz
  simp only[Option.some.injEq,Prod.mk.injEq]at h;obtain⟨rfl,rfl⟩:=h
  obtain rfl:first= #[]:=Array.eq_empty_of_size_eq_zero hz
  refine⟨.func (.func f) #[] (caps.map ρ),by simp[execOp,heq,Instr.makeFunc],?_⟩
  simp only[zak]
  exact⟨caps.toList.map ρ,by cases caps;simp,zap.map hr _⟩
 case h_11 t x lo hi mx heq=>
  obtain⟨v,h1,h2⟩:=zo5 (la:=lo.map ρ) (ha:=hi.map ρ) (ma:=mx.map ρ) h hc (hr x)
   (fun y hy=>by obtain⟨z,rfl,rfl⟩:=Option.map_eq_some_iff.1 hy;exact⟨_,rfl,hr z⟩) (fun hn=>by simpa using hn)
   (fun y hy=>by obtain⟨z,rfl,rfl⟩:=Option.map_eq_some_iff.1 hy;exact⟨_,rfl,hr z⟩) (fun hn=>by simpa using hn)
   (fun y hy=>by obtain⟨z,rfl,rfl⟩:=Option.map_eq_some_iff.1 hy;exact⟨_,rfl,hr z⟩) (fun hn=>by simpa using hn)
  exact⟨v,by simp only[execOp,heq];exact lift h1,h2⟩
 case h_12 t x i heq=>
  obtain⟨v,h1,h2⟩:=zid h hc (hr x)
  exact⟨v,by simp only[execOp,heq];exact lift h1,h2⟩
 case h_13 t x i heq=>
  obtain⟨v,h1,h2⟩:=zo1 h hc (hr x)
  exact⟨v,by simp only[execOp,heq];exact lift h1,h2⟩
 case h_14 t x i heq=>
  obtain⟨v,h1,h2⟩:=zif h hc (hr x) (hr i)
  exact⟨v,by simp only[execOp,heq];exact lift h1,h2⟩
 case h_15 t x i heq=>
  obtain⟨v,h1,h2⟩:=zo4 h hc (hr x) (hr i)
  exact⟨v,by simp only[execOp,heq];exact lift h1,h2⟩
 case h_16 x i heq=>
  obtain⟨v,h1,h2⟩:=zk3 h (hr x)
  exact⟨v,by simp only[execOp,heq];exact lift h1,h2⟩
 case h_17 cl heq=>
  split at h
  case h_2=>cases h
  rename_i b hb
  obtain⟨v,h1,h2⟩:=zk2 (ty:=o.type) h hc hr
  exact⟨v,by simp only[execOp,heq,resolve,hb,pure_bind,invoke];exact h1 _,h2⟩
 case h_18=>cases h
end
end Go.Abs
namespace Go.Abs
open Go
def zaM (H:zas)(id:Id)(o:Option O):zas:=fun j=>if j=id then o else H j
def zcK (L:Loc)(id:Id)(p:LP):Loc:=fun j=>if j=id then p else L j
structure zbQ (w:World)(ob:Obj)(w':World):Prop where
 heap:w'.heap=w.heap.push ob
 os:w'.os=w.os
 tape:w'.tape=w.tape
 output:w'.output=w.output
 drawn:w.drawn≤w'.drawn
theorem zbQ.alloc (w:World)(ob:Obj):zbQ w ob (w.alloc ob):=⟨rfl,rfl,rfl,rfl,Nat.le_refl _⟩
theorem zbQ.drewAlloc (w:World)(ob:Obj):zbQ w ob (w.drew.alloc ob):=⟨rfl,rfl,rfl,rfl,Nat.le_succ _⟩
theorem zbQ.old {w w' ob}(h:zbQ w ob w'){b:Nat}(hb:b<w.heap.size):w'.heap[b]?=w.heap[b]?:=by
 rw[h.heap,Array.getElem?_push,if_neg (by omega)]
theorem zbQ.new {w w' ob}(h:zbQ w ob w'):w'.heap[w.heap.size]?=some ob:=by
 rw[h.heap];simp
theorem zbQ.size {w w' ob}(h:zbQ w ob w'):w'.heap.size=w.heap.size+1:=by
 rw[h.heap];simp
theorem OkW.blk_lt {G w L F U H}(h:OkW G w L F U H){id o}(ho:H id=some o)(hv:(L id).3=false):(L id).1<w.heap.size:=by
 obtain⟨_,cs,T,hb,_⟩:=zaC (h.live id o ho).2 hv
 rcases Nat.lt_or_ge (L id).1 w.heap.size with h|h
 ·exact h
 ·rw[Array.getElem?_eq_none h]at hb;cases hb
theorem zb2.ext {w L F U w' L' F' U'}(e:Ext w L F U w' L' F' U'){id:Id}{o:O}(hU:U id)(h:zb2 w L F U id o)
  (hk:(L id).3=false→w'.heap[(L id).1]?=w.heap[(L id).1]?∧∀k,(L id).2≤k→¬F' (L id).1 k):zb2 w' L' F' U' id o:=by
 unfold zb2 at h ⊢
 rw[e.l _ hU]
 cases hv:(L id).3
 ·simp only[hv,Bool.false_eq_true,if_false]at h ⊢
  obtain⟨h1,cs,T,h2,h3,h4⟩:=h
  exact⟨(hk hv).2,cs,T,(hk hv).1.trans h2,h3,fun j hj=>let⟨v,a,b⟩:=h4 j hj;⟨v,a,b.ext e⟩⟩
 ·simp only[hv,if_true]at h ⊢
  exact h
theorem zdT {G:Nat→List FD}{w w':World}{F F':Nat→Nat→Prop}(hf:∀b k,F b k→F' b k)(hk:∀b k,F b k→World.at w' b k=World.at w b k)
  (h:zik G w F):zik G w' F':=by
 refine⟨fun g j hj=>?_,fun g hg=>?_⟩
 ·obtain⟨h1,v,h2,h3⟩:=h.1 g j hj
  exact⟨hf _ _ h1,v,(hk _ _ h1).trans h2,h3.mono hk hf⟩
 ·obtain⟨h1,h2⟩:=h.2 g hg
  exact⟨hf _ _ h1,(hk _ _ h1).trans h2⟩
theorem zjD {G w L F U H}(hok:OkW G w L F U H){w'}{cs:Array Value}{T:TypeId}(hp:zbQ w (.cells cs T (0,0)) w'){id:Id}{U':Id→Prop}(hid:¬U id)(hU:∀i,U i→U' i)(hid':U' id)
  {s:Nat}{cells:List D}(hlen:s+cells.length≤cs.size)(hc:∀j,j<cells.length→∃v,cs[s+j]?=some v∧zak w L F U (cells.getD j .junk) v)(box virt:Bool):
  OkW G w' (zcK L id ⟨w.heap.size,s,false⟩) (fun b k=>F b k∨(b=w.heap.size∧k<s)) U' (zaM H id (some ⟨cells,box,virt⟩))∧
   zbL H w L F U (zaM H id (some ⟨cells,box,virt⟩)) w' (zcK L id ⟨w.heap.size,s,false⟩) (fun b k=>F b k∨(b=w.heap.size∧k<s)) U':=by
 have hLo:∀i,U i→zcK L id ⟨w.heap.size,s,false⟩ i=L i:=fun i hi=>by
  unfold zcK;rw[if_neg (by rintro rfl;exact hid hi)]
 have hLn:zcK L id ⟨w.heap.size,s,false⟩ id=⟨w.heap.size,s,false⟩:=by simp[zcK]
 have hst:zbL H w L F U (zaM H id (some ⟨cells,box,virt⟩)) w' (zcK L id ⟨w.heap.size,s,false⟩) (fun b k=>F b k∨(b=w.heap.size∧k<s)) U':=by
  refine⟨hU,hLo,fun _ _ h=> .inl h,by rw[hp.size];omega,fun b hb _=>hp.old hb,fun b k hb _=>zjh (hp.old hb) k,?_,fun b k h=>?_,?_,hp.os,hp.tape,hp.output,hp.drawn⟩
  ·intro b cs' T' fr' hb h
   rw[hp.old hb]at h
   exact⟨cs',T',fr',h,Nat.le_refl _⟩
  ·rcases h with h|⟨rfl,_⟩
   ·exact .inl h
   ·exact .inr (.inl (Nat.le_refl _))
  ·rintro b k ⟨i,o,h1,h2,rfl,h4⟩
   by_cases e:i=id
   ·subst e;rw[hLn];exact .inl (Nat.le_refl _)
   ·simp only[zaM,if_neg e]at h1
    rw[hLo i (hok.live i o h1).1]at h2 h4 ⊢
    exact .inr ⟨i,o,h1,h2,rfl,h4⟩
 refine⟨?_,hst⟩
 have e:=hst.ext hok
 refine⟨fun b k hb=>?_,?_,?_,zdT (fun _ _ h=> .inl h) e.fk hok.glob⟩
 ·rw[hp.size]
  rcases hb with hb|⟨rfl,_⟩
  ·have:=hok.fb b k hb;omega
  ·omega
 ·intro i o h1
  by_cases ei:i=id
  ·subst ei
   simp only[zaM,if_true,Option.some.injEq]at h1
   subst h1
   refine⟨hid',?_⟩
   simp only[zb2,Bool.false_eq_true,if_false,hLn]
   refine⟨fun k hk h=>?_,cs,T,hp.new,hlen,fun j hj=>?_⟩
   ·rcases h with h|⟨_,h⟩
    ·have:=hok.fb _ _ h;omega
    ·omega
   obtain⟨v,h1,h2⟩:=hc j hj
   exact⟨v,h1,h2.ext e⟩
  ·simp only[zaM,if_neg ei]at h1
   obtain⟨g1,g2⟩:=hok.live i o h1
   refine⟨hU _ g1,g2.ext e g1 fun hv=>⟨hp.old (hok.blk_lt h1 hv),fun k hk h=>?_⟩⟩
   rcases h with h|⟨h,_⟩
   ·exact(zaC g2 hv).1 k hk h
   ·have:=hok.blk_lt h1 hv;omega
 ·intro i i' o o' h1 h2 hv hv' he
  by_cases e1:i=id<;>by_cases e2:i'=id
  ·rw[e1,e2]
  ·subst e1
   simp only[zaM,if_neg e2]at h2
   rw[hLo _ (hok.live _ _ h2).1]at hv'
   rw[hLn,hLo _ (hok.live _ _ h2).1]at he
   have:=hok.blk_lt h2 hv'
   simp only at he;omega
  ·subst e2
   simp only[zaM,if_neg e1]at h1
   rw[hLo _ (hok.live _ _ h1).1]at hv
   rw[hLn,hLo _ (hok.live _ _ h1).1]at he
   have:=hok.blk_lt h1 hv
   simp only at he;omega
  ·simp only[zaM,if_neg e1]at h1
   simp only[zaM,if_neg e2]at h2
   rw[hLo _ (hok.live _ _ h1).1]at hv
   rw[hLo _ (hok.live _ _ h2).1]at hv'
   rw[hLo _ (hok.live _ _ h1).1,hLo _ (hok.live _ _ h2).1]at he
   exact hok.inj i i' o o' h1 h2 hv hv' he
theorem zxT {F:Nat→Nat→Prop}{n:Nat}:(fun b k=>F b k∨(b=n∧k<0))=F:=by
 funext b k
 simp
theorem zhC {G w L F U H}(hok:OkW G w L F U H){w'}{cs:Array Value}{T:TypeId}(hp:zbQ w (.cells cs T (0,0)) w'){id:Id}{U':Id→Prop}(hid:¬U id)(hU:∀i,U i→U' i)(hid':U' id)
  {cells:List D}(hlen:cells.length≤cs.size)(hc:∀j,j<cells.length→∃v,cs[j]?=some v∧zak w L F U (cells.getD j .junk) v)(box:Bool):
  OkW G w' (zcK L id ⟨w.heap.size,0,false⟩) F U' (zaM H id (some ⟨cells,box,false⟩))∧
   zbL H w L F U (zaM H id (some ⟨cells,box,false⟩)) w' (zcK L id ⟨w.heap.size,0,false⟩) F U':=by
 have:=zjD hok hp (s:=0) hid hU hid' (cells:=cells) (by omega) (fun j hj=>by rw[Nat.zero_add];exact hc j hj) box false
 rwa [zxT]at this
theorem zrs {G w L F U H}(hok:OkW G w L F U H){w'}{ob:Obj}(hp:zbQ w ob w'):
  OkW G w' L (fun b k=>F b k∨b=w.heap.size) U H∧zbL H w L F U H w' L (fun b k=>F b k∨b=w.heap.size) U:=by
 have hst:zbL H w L F U H w' L (fun b k=>F b k∨b=w.heap.size) U:=by
  refine⟨fun _ h=>h,fun _ _=>rfl,fun _ _ h=> .inl h,by rw[hp.size];omega,fun b hb _=>hp.old hb,fun b k hb _=>zjh (hp.old hb) k,?_,?_,fun _ _ h=> .inr h,hp.os,hp.tape,hp.output,hp.drawn⟩
  ·intro b cs' T' fr' hb h
   rw[hp.old hb]at h
   exact⟨cs',T',fr',h,Nat.le_refl _⟩
  ·rintro b k (h|h)
   ·exact .inl h
   ·exact .inr (.inl (by omega))
 refine⟨?_,hst⟩
 have e:=hst.ext hok
 refine⟨?_,?_,hok.inj,zdT (fun _ _ h=> .inl h) e.fk hok.glob⟩
 ·rintro b k (h|h)
  ·have:=hok.fb b k h;rw[hp.size];omega
  ·rw[hp.size];omega
 ·intro i o h1
  obtain⟨g1,g2⟩:=hok.live i o h1
  refine⟨g1,g2.ext e g1 fun hv=>⟨hp.old (hok.blk_lt h1 hv),?_⟩⟩
  rintro k hk (h|h)
  ·exact(zaC g2 hv).1 k hk h
  ·have:=hok.blk_lt h1 hv;omega
theorem OkW.sub {G w L F U H H'}(hok:OkW G w L F U H)(h:∀i o,H' i=some o→H i=some o):OkW G w L F U H':=
 ⟨hok.fb,fun i o h1=>hok.live i o (h i o h1),fun i i' o o' h1 h2=>hok.inj i i' o o' (h _ _ h1) (h _ _ h2),hok.glob⟩
theorem zbL.sub {H w L F U H' w' L' F' U' H''}(s:zbL H w L F U H' w' L' F' U')(h:∀i o,H'' i=some o→H' i=some o):zbL H w L F U H'' w' L' F' U':=
 {s with bnew:=fun b k ⟨i,o,h1,h2,h3⟩=>s.bnew b k ⟨i,o,h i o h1,h2,h3⟩}
end Go.Abs
namespace Go.Abs
open Go
def zh8 (w:World)(b:Nat)(ob:Obj):World:={w with heap:=w.heap.setIfInBounds b ob}
theorem zdc {w:World}{b:Nat}{ob:Obj}(h:b<w.heap.size):(zh8 w b ob).heap[b]?=some ob:=by
 simp[zh8,h]
theorem zeQ {w:World}{b c:Nat}{ob:Obj}(h:c≠b):(zh8 w b ob).heap[c]?=w.heap[c]?:=by
 simp only[zh8]
 rw[Array.getElem?_setIfInBounds_ne (fun e=>h e.symm)]
theorem zfQ {w:World}{b:Nat}{ob:Obj}:(zh8 w b ob).heap.size=w.heap.size:=by simp[zh8]
theorem zsF {w:World}{b:Nat}{x y:Obj}:zh8 (zh8 w b x) b y=zh8 w b y:=by simp[zh8]
theorem zct {w:World}{b:Nat}{ob:Obj}(h:w.heap[b]?=some ob):b<w.heap.size:=by
 rcases Nat.lt_or_ge b w.heap.size with h'|h'
 ·exact h'
 ·rw[Array.getElem?_eq_none h']at h;cases h
theorem znb {w:World}{b:Nat}{ob:Obj}(h:w.heap[b]?=some ob):zh8 w b ob=w:=by
 have hl:=zct h
 have:w.heap.setIfInBounds b ob=w.heap:=by
  apply Array.ext_getElem?
  intro i
  by_cases e:i=b
  ·subst e;rw[h];simp[hl]
  ·rw[Array.getElem?_setIfInBounds_ne (fun e'=>e e'.symm)]
 simp[zh8,this]
theorem zlL {w:World}{b k:Nat}{cs:Array Value}{T fr}{v:Value}(h:w.heap[b]?=some (.cells cs T fr)):
  w.setCell ⟨b,k,none⟩ v=zh8 w b (.cells (cs.setIfInBounds k v) T fr):=by
 have hl:=zct h
 simp only[World.setCell,zh8]
 congr 1
 apply Array.ext_getElem?
 intro i
 rw[Array.getElem?_modify]
 by_cases e:b=i
 ·subst e;rw[if_pos rfl,h];simp[hl]
 ·simp[e]
theorem zcA {P:Program}{b off:Nat}{T:TypeId}:∀(nv:List Value) (i:Nat) (w:World) (cs:Array Value),w.heap[b]?=some (.cells cs T (0,0))→(∀v∈nv,v.oneCell'=true)→
  off+i+nv.length≤cs.size→
  (storeCells ⟨b,off,none⟩ nv i).run P w= .ok () (zh8 w b (.cells ((nv.zipIdx i).foldl (fun cs (p:Value×Nat)=>cs.setIfInBounds (off+p.2) p.1) cs) T (0,0)))
 |[],i,w,cs,h,_,_=>by simp[storeCells,znb h]
 |v::nv,i,w,cs,h,h1,hl=>by
  simp only[List.length_cons]at hl
  have hc:w.cell? ⟨b,off+i,none⟩=some cs[off+i]:=by rw[zfY h];simp
  have hf:w.frozen? ⟨b,off+i,none⟩=false:=by simp[World.frozen?,h]
  have hlt:=zct h
  have hs:=zlL (k:=off+i) (v:=v) h
  have ih:=zcA (P:=P) (b:=b) (off:=off) (T:=T) nv (i+1) (zh8 w b (.cells (cs.setIfInBounds (off+i) v) T (0,0))) (cs.setIfInBounds (off+i) v) (zdc hlt)
   (fun u hu=>h1 u (List.mem_cons_of_mem _ hu)) (by simp;omega)
  simp only[storeCells,Sem.run_bind,zby,run_store P w _ v .plain (h1 v (by simp)),hc,hf,Bool.false_eq_true,if_false,Result.andThen_ok,hs,ih,List.zipIdx_cons,List.foldl_cons,zsF]
def zcJ:D→Bool
 | .junk| .agg _| .tup _| .fz (.agg _)=>false
 |_=>true
theorem zhH {w L F U d v}(h:zak w L F U d v)(h1:zcJ d=true):v.oneCell'=true:=by
 cases d with
 |junk=>simp[zcJ]at h1
 |fz x=>
  simp only[zak]at h
  cases h<;>first|rfl|simp[zcJ]at h1
 |full xs=>simp only[zak]at h;obtain⟨a,rfl,_⟩:=h;rfl
 |rp xs=>simp only[zak]at h;obtain⟨_,_,rfl,_⟩:=h;rfl
 |ow id es xs=>simp only[zak]at h;obtain⟨_,_,_,_,rfl,_⟩:=h;rfl
 |ptr id k=>simp only[zak]at h;obtain⟨_,_,rfl⟩:=h;rfl
 |arr id es s len=>simp only[zak]at h;obtain⟨_,_,_,rfl,_⟩:=h;rfl
 |fn f caps=>simp only[zak]at h;obtain⟨_,rfl,_⟩:=h;rfl
 |agg ds=>simp[zcJ]at h1
 |tup ds=>simp[zcJ]at h1
theorem zbu (nv:List Value)(i off:Nat)(cs:Array Value):((nv.zipIdx i).foldl (fun cs (p:Value×Nat)=>cs.setIfInBounds (off+p.2) p.1) cs).size=cs.size:=by
 induction nv generalizing i cs with
 |nil=>rfl
 |cons v nv ih=>simp[ih]
theorem za8 (nv:List Value):∀(i off:Nat) (cs:Array Value) (j:Nat),off+i+nv.length≤cs.size→
  ((nv.zipIdx i).foldl (fun cs (p:Value×Nat)=>cs.setIfInBounds (off+p.2) p.1) cs)[j]?=
   if off+i≤j∧j<off+i+nv.length then nv[j-(off+i)]? else cs[j]?:=by
 induction nv with
 |nil=>intro i off cs j _;simp;omega
 |cons v nv ih=>
  intro i off cs j hl
  simp only[List.length_cons]at hl
  simp only[List.zipIdx_cons,List.foldl_cons,List.length_cons]
  rw[ih (i+1) off _ j (by simp;omega)]
  by_cases e:j=off+i
  ·subst e
   rw[if_neg (by omega),if_pos (by omega)]
   simp[show off+i<cs.size by omega]
  ·by_cases h2:off+(i+1)≤j∧j<off+(i+1)+nv.length
   ·rw[if_pos h2,if_pos (by omega)]
    have:j-(off+i)=(j-(off+(i+1)))+1:=by omega
    rw[this];simp
   ·rw[if_neg h2,if_neg (by omega)]
    rw[Array.getElem?_setIfInBounds_ne (fun e'=>e e'.symm)]
theorem zi5 {G w L F U H}(hok:OkW G w L F U H){id:Id}{o:O}(ho:H id=some o)(hv:(L id).3=false){cs cs':Array Value}{T:TypeId}
  (hb:w.heap[(L id).1]?=some (.cells cs T (0,0)))(hsz:cs'.size=cs.size)(hlow:∀k,k<(L id).2→cs'[k]?=cs[k]?){id':Id}{o':O}{L':Loc}{U':Id→Prop}
  (hU:∀i,U i→U' i)(hid':U' id')(hL:∀i,U i→L' i=L i)(hL':(L' id').1=(L id).1)(hL2:(L id).2≤(L' id').2)(hL3:(L' id').3=false)(hnew:id'=id∨¬U id')
  {F':Nat→Nat→Prop}(hF:∀b k,F b k→F' b k)(hF':∀b k,F' b k→F b k∨(b=(L id).1∧(L id).2≤k∧k<(L' id').2))
  (hlen:(L' id').2+o'.cells.length≤cs.size)
  (hc:∀j,j<o'.cells.length→∃v,cs'[(L' id').2+j]?=some v∧zak w L F U (o'.cells.getD j .junk) v):
  OkW G (zh8 w (L id).1 (.cells cs' T (0,0))) L' F' U' (zaM (zaM H id none) id' (some o'))∧
   zbL H w L F U (zaM (zaM H id none) id' (some o')) (zh8 w (L id).1 (.cells cs' T (0,0))) L' F' U':=by
 have hlt:=zct hb
 have hnF:∀k,(L id).2≤k→¬F (L id).1 k:=(zaC (hok.live id o ho).2 hv).1
 have hold:∀i x,i≠id'→zaM (zaM H id none) id' (some o') i=some x→i≠id∧H i=some x:=fun i x hi h=>by
  simp only[zaM,if_neg hi]at h
  split at h
  ·cases h
  ·exact⟨‹_›,h⟩
 have hself:∀x,zaM (zaM H id none) id' (some o') id'=some x→x=o':=fun x h=>by
  simp only[zaM,if_true,Option.some.injEq]at h;exact h.symm
 have hst:zbL H w L F U (zaM (zaM H id none) id' (some o')) (zh8 w (L id).1 (.cells cs' T (0,0))) L' F' U':=by
  refine⟨hU,hL,hF,by rw[zfQ];exact Nat.le_refl _,fun b hb' hn=>zeQ (fun e=>hn ⟨id,o,ho,hv,e.symm⟩),fun b k hb' hn=>?_,?_,fun b k h=>?_,?_,rfl,rfl,rfl,Nat.le_refl _⟩
  ·by_cases e:b=(L id).1
   ·subst e
    have hk:k<(L id).2:=Nat.lt_of_not_le fun h=>hn ⟨id,o,ho,hv,rfl,h⟩
    rw[zg9 (zdc hlt),zg9 hb]
    exact hlow k hk
   ·exact zjh (zeQ e) k
  ·intro b cs1 T1 fr1 _ h
   by_cases e:b=(L id).1
   ·subst e
    rw[zdc hlt]at h
    simp only[Option.some.injEq,Obj.cells.injEq]at h
    obtain⟨rfl,rfl,rfl⟩:=h
    exact⟨cs,_,_,hb,by omega⟩
   ·rw[zeQ e]at h
    exact⟨cs1,T1,fr1,h,Nat.le_refl _⟩
  ·rcases hF' b k h with h|⟨rfl,h1,_⟩
   ·exact .inl h
   ·exact .inr (.inr ⟨id,o,ho,hv,rfl,h1⟩)
  ·rintro b k ⟨i,x,h1,h2,rfl,h4⟩
   by_cases e:i=id'
   ·subst e;rw[hL'];exact .inr ⟨id,o,ho,hv,rfl,by omega⟩
   ·obtain⟨_,h3⟩:=hold i x e h1
    rw[hL i (hok.live i x h3).1]at h2 h4 ⊢
    exact .inr ⟨i,x,h3,h2,rfl,h4⟩
 refine⟨?_,hst⟩
 have e:=hst.ext hok
 refine⟨fun b k hb'=>?_,?_,?_,zdT hF e.fk hok.glob⟩
 ·rw[zfQ]
  rcases hF' b k hb' with h|⟨rfl,_⟩
  ·exact hok.fb b k h
  ·exact hlt
 ·intro i x h1
  by_cases ei:i=id'
  ·subst ei
   obtain rfl:=hself x h1
   refine⟨hid',?_⟩
   simp only[zb2,hL3,Bool.false_eq_true,if_false,hL']
   refine⟨fun k hk h=>?_,cs',T,zdc hlt,by omega,fun j hj=>?_⟩
   ·rcases hF' _ k h with h|⟨_,_,h⟩
    ·exact hnF k (by omega) h
    ·omega
   obtain⟨v,h1,h2⟩:=hc j hj
   exact⟨v,h1,h2.ext e⟩
  ·obtain⟨hne,h2⟩:=hold i x ei h1
   obtain⟨g1,g2⟩:=hok.live i x h2
   refine⟨hU _ g1,g2.ext e g1 fun hvx=>⟨zeQ fun e'=>hne (hok.inj i id x o h2 ho hvx hv e'),fun k hk h=>?_⟩⟩
   rcases hF' _ k h with h|⟨h,_⟩
   ·exact(zaC g2 hvx).1 k hk h
   ·exact hne (hok.inj i id x o h2 ho hvx hv h)
 ·intro i i' x x' h1 h2 hvx hvx' he
  by_cases e1:i=id'<;>by_cases e2:i'=id'
  ·rw[e1,e2]
  ·subst e1
   obtain⟨hne,h3⟩:=hold i' x' e2 h2
   rw[hL _ (hok.live _ _ h3).1]at hvx'
   rw[hL',hL _ (hok.live _ _ h3).1]at he
   exact absurd (hok.inj i' id x' o h3 ho hvx' hv he.symm) hne
  ·subst e2
   obtain⟨hne,h3⟩:=hold i x e1 h1
   rw[hL _ (hok.live _ _ h3).1]at hvx
   rw[hL',hL _ (hok.live _ _ h3).1]at he
   exact absurd (hok.inj i id x o h3 ho hvx hv he) hne
  ·obtain⟨_,h3⟩:=hold i x e1 h1
   obtain⟨_,h4⟩:=hold i' x' e2 h2
   rw[hL _ (hok.live _ _ h3).1]at hvx
   rw[hL _ (hok.live _ _ h4).1]at hvx'
   rw[hL _ (hok.live _ _ h3).1,hL _ (hok.live _ _ h4).1]at he
   exact hok.inj i i' x x' h3 h4 hvx hvx' he
theorem zl9 {G w L F U H}(hok:OkW G w L F U H){id:Id}{o:O}(ho:H id=some o)(hv:(L id).3=false){cs cs':Array Value}{T:TypeId}
  (hb:w.heap[(L id).1]?=some (.cells cs T (0,0)))(hsz:cs'.size=cs.size)(hlow:∀k,k<(L id).2→cs'[k]?=cs[k]?){id':Id}{o':O}{L':Loc}{U':Id→Prop}
  (hU:∀i,U i→U' i)(hid':U' id')(hL:∀i,U i→L' i=L i)(hL':(L' id').1=(L id).1)(hL2:(L id).2≤(L' id').2)(hL3:(L' id').3=false)(hnew:id'=id∨¬U id')
  (hlen:(L' id').2+o'.cells.length≤cs.size)
  (hc:∀j,j<o'.cells.length→∃v,cs'[(L' id').2+j]?=some v∧zak w L F U (o'.cells.getD j .junk) v):
  OkW G (zh8 w (L id).1 (.cells cs' T (0,0))) L' F U' (zaM (zaM H id none) id' (some o'))∧
   zbL H w L F U (zaM (zaM H id none) id' (some o')) (zh8 w (L id).1 (.cells cs' T (0,0))) L' F U':=
 zi5 hok ho hv hb hsz hlow hU hid' hL hL' hL2 hL3 hnew (fun _ _ h=>h) (fun _ _ h=> .inl h) hlen hc
theorem zpB (new:List D):∀(i off:Nat) (ds:List D) (j:Nat),off+i+new.length≤ds.length→
  ((new.zipIdx i).foldl (fun cs p=>cs.set (off+p.2) p.1) ds).getD j .junk=if off+i≤j∧j<off+i+new.length then new.getD (j-(off+i)) .junk else ds.getD j .junk:=by
 induction new with
 |nil=>intro i off ds j _;simp;omega
 |cons v nv ih=>
  intro i off ds j hl
  simp only[List.length_cons]at hl
  simp only[List.zipIdx_cons,List.foldl_cons,List.length_cons]
  rw[ih (i+1) off _ j (by simp;omega)]
  by_cases e:j=off+i
  ·subst e
   rw[if_neg (by omega),if_pos (by omega)]
   simp[List.getD_eq_getElem?_getD,show off+i<ds.length by omega]
  ·by_cases h2:off+(i+1)≤j∧j<off+(i+1)+nv.length
   ·rw[if_pos h2,if_pos (by omega)]
    have:j-(off+i)=(j-(off+(i+1)))+1:=by omega
    rw[this];simp
   ·rw[if_neg h2,if_neg (by omega)]
    simp[List.getD_eq_getElem?_getD,show¬off+i=j by omega]
theorem zse {P:Program}{G w L F U H}(hok:OkW G w L F U H){id:Id}{o:O}(ho:H id=some o)(hv:o.virt=false){t:TypeId}{ti:TI}(hti:zaq P t=some ti){k:Nat}{d:D}{v:Value}
  (hd:zak w L F U d v)(hk:d.known=true)(hone:d.cs.all zcJ=true)(hsz:d.cs.length=ti.size)(hlen:k+ti.size≤o.cells.length):
  ∃w',(Instr.storeAt t (.pointer (some ⟨(L id).1,(L id).2+k,none⟩)) v).run P w= .ok () w'∧
   OkW G w' L F U (zaM H id (some {o with cells:=zcT o.cells k d.cs}))∧zbL H w L F U (zaM H id (some {o with cells:=zcT o.cells k d.cs})) w' L F U:=by
 obtain⟨_,cs,T,hb,hfit,hcell⟩:=zgs (hok.live id o ho).2 hv
 have hcs:=zak.cs hd (zgO hk)
 obtain⟨hvl,hvr⟩:=(zap.iff _ _).1 hcs
 have hone':∀u∈v.cells.toList,u.oneCell'=true:=by
  intro u hu
  obtain⟨j,hj,rfl⟩:=List.getElem_of_mem hu
  have h1:=hvr j (by omega)
  rw[List.all_eq_true]at hone
  have h2:zcJ (d.cs.getD j .junk)=true:=hone _ (by rw[List.getD_eq_getElem?_getD,List.getElem?_eq_getElem (by omega)];exact List.getElem_mem _)
  have h3:=zhH h1 h2
  simpa[List.getD_eq_getElem?_getD,List.getElem?_eq_getElem hj]using h3
 have hvs:v.cells.size=ti.size:=by rw[←Array.length_toList,hvl,hsz]
 have hrun:=zcA (P:=P) (b:=(L id).1) (off:=(L id).2+k) (T:=T) v.cells.toList 0 w cs hb hone' (by simp;omega)
 have hupd:zaM (zaM H id none) id (some {o with cells:=zcT o.cells k d.cs})=zaM H id (some {o with cells:=zcT o.cells k d.cs}):=by
  funext j;simp only[zaM];split<;>rfl
 have hv3:=(hok.live id o ho).2.real hv
 have key:=zl9 hok ho hv3 hb (zbu v.cells.toList 0 ((L id).2+k) cs) (fun q hq=>by rw[za8 _ _ _ _ _ (by simp;omega),if_neg (by omega)]) (id':=id) (o':={o with cells:=zcT o.cells k d.cs}) (L':=L) (U':=U) (fun _ h=>h) (hok.live id o ho).1 (fun _ _=>rfl) rfl (Nat.le_refl _) hv3 (.inl rfl)
  (by simp only[zlJ];exact hfit) (fun j hj=>by
   simp only[zlJ]at hj
   rw[za8 _ _ _ _ _ (by simp;omega)]
   unfold zcT
   rw[zpB _ _ _ _ _ (by omega)]
   by_cases hin:k≤j∧j<k+d.cs.length
   ·rw[if_pos (by omega),if_pos (by simp;omega)]
    have e1:(L id).2+j-((L id).2+k+0)=j-(k+0):=by omega
    have hjlt:j-(k+0)<v.cells.toList.length:=by omega
    refine⟨_,by rw[e1,List.getElem?_eq_getElem hjlt],?_⟩
    have:=hvr (j-(k+0)) (by omega)
    rw[List.getD_eq_getElem?_getD (l:=v.cells.toList),List.getElem?_eq_getElem hjlt]at this
    simpa using this
   ·rw[if_neg (by omega),if_neg (by simp;omega)]
    exact hcell j hj)
 rw[hupd]at key
 refine⟨_,?_,key⟩
 simp only[Instr.storeAt,Instr.sureAddr,storeVar,Sem.run_bind,Sem.run_pure,Result.andThen_ok,zaw hti,hvs,ne_eq,not_true_eq_false,if_false,Sem.run_ite,hrun]
end Go.Abs
namespace Go.Abs
open Go
theorem zgp (need:Nat):∀(r c:Nat),c<need→Builtin.growBy need r c≤need+need / 4+512
 |0,c,h=>by simp only[Builtin.growBy];omega
 |r+1,c,h=>by
  simp only[Builtin.growBy]
  rw[if_neg (by omega)]
  by_cases h2:c+(c+768) / 4<need
  ·exact zgp need r _ h2
  ·cases r with
   |zero=>simp only[Builtin.growBy];omega
   |succ r=>
    simp only[Builtin.growBy]
    rw[if_pos (by omega)];omega
theorem zfC {need old:Nat}(h:old<need):Builtin.nextslicecap need old≤need+need / 4+512:=by
 unfold Builtin.nextslicecap
 split
 ·omega
 ·split
  ·omega
  ·exact zgp need 4 old h
def fits (n bytes:Nat):Prop:=n≤zaZ∧(n+n / 4+512)*bytes≤281474976710656
theorem zqU {n bytes old:Nat}(h:fits n bytes)(ho:old<n):Builtin.nextslicecap n old*bytes≤281474976710656:=
 Nat.le_trans (Nat.mul_le_mul_right _ (zfC ho)) h.2
theorem zdU (w:World)(need old:Nat)(e:TypeId):need≤grownCap w need old e:=by
 unfold grownCap Question.cut
 exact Nat.le_add_right _ _
section
variable {P:Program} {w:World} {t u ty e e':TypeId} {i:TypeInfo} {z:Value}
theorem za3 (ht:P.underlying t=some (.slice e))(hu:P.underlying u=some (.slice e'))(hi:P.info? e=some i)
  {base:Option Addr}{sLen sCap:Nat}{xb:Option Addr}{n xc:Nat}{news:Array Value}
  (hnew:(Builtin.firstCells i.size n (.slice xb n xc)).run P w= .ok news w)(hg:sLen+n≤sCap){w':World}
  (hst:∀a,base=some a→(storeCells (a.add (sLen*i.size)) news.toList).run P w= .ok () w')(hb0:base=none→w'=w):
  (Builtin.append_ #[t,u] ty #[.slice base sLen sCap,.slice xb n xc]).run P w= .ok (.slice base (sLen+n) sCap) w':=by
 cases base with
 |none=>
  obtain rfl:=hb0 rfl
  simp[Builtin.append_,run_underlying ht,run_underlying hu,sizeOf,typeInfo,hi,Builtin.lenOf,hg,hnew]
 |some a=>
  simp[Builtin.append_,run_underlying ht,run_underlying hu,sizeOf,typeInfo,hi,Builtin.lenOf,hg,hnew,hst a rfl]
theorem zdt (ht:P.underlying t=some (.slice e))(hu:P.underlying u=some (.slice e'))(hi:P.info? e=some i)(hz:i.zero=some z)
  {base:Option Addr}{sLen sCap:Nat}{xb:Option Addr}{n xc:Nat}{olds news:Array Value}
  (hold:(Builtin.firstCells i.size sLen (.slice base sLen sCap)).run P w.drew= .ok olds w.drew)
  (hnew:(Builtin.firstCells i.size n (.slice xb n xc)).run P w.drew= .ok news w.drew)(hg:sCap<sLen+n)(hf:fits (sLen+n) i.bytes):
  (Builtin.append_ #[t,u] ty #[.slice base sLen sCap,.slice xb n xc]).run P w= .ok (.slice (some ⟨w.heap.size,0,none⟩) (sLen+n) (grownCap w (sLen+n) sCap e))
   (w.drew.alloc (.cells (olds++news++Builtin.zeroCells z.cells (grownCap w (sLen+n) sCap e-(sLen+n))) e)):=by
 have hn:¬(sLen+n≤sCap):=by omega
 have h63':¬(9223372036854775807<((sLen:Int)+(n:Int))):=by have:=hf.1;unfold zaZ at this;omega
 have h48':¬(281474976710656<Builtin.nextslicecap (sLen+n) sCap*i.bytes):=by have:=zqU hf hg;omega
 simp[Builtin.append_,run_underlying ht,run_underlying hu,sizeOf,typeInfo,zeroValue,hi,hz,Builtin.lenOf,hn,h63',h48',Question.forced,hold,hnew,newRow,grownCap]
theorem ze4 {size n:Nat}{b o:Nat}{len cap:Nat}(f:Nat→Value)(h:∀j,j<n*size→w.cell? ⟨b,o+j,none⟩=some (f j)):
  (Builtin.firstCells size n (.slice (some ⟨b,o,none⟩) len cap)).run P w= .ok ((List.range (n*size)).map f).toArray w:=by
 simp only[Builtin.firstCells]
 exact run_loadCells w _ _ f (fun j hj=>by rw[zby];exact h j hj)
theorem zaR {size:Nat}{a:Option Addr}{len cap:Nat}:
  (Builtin.firstCells size 0 (.slice a len cap)).run P w= .ok #[] w:=by
 cases a with
 |none=>simp[Builtin.firstCells]
 |some a=>simp[Builtin.firstCells,loadCells,loadCellsFrom]
end
def zag (xs:List FD):List D:=xs.flatMap fun x=>x.cells.map .fz
theorem zbN {xs:List FD}{es:Nat}(h:∀i,i<xs.length→(xs.getD i .nilf).cells.length=es):(zag xs).length=xs.length*es:=by
 induction xs with
 |nil=>simp[zag]
 |cons x xs ih=>
  have h0:=h 0 (by simp)
  have ih':=ih fun i hi=>by have:=h (i+1) (by simpa using hi);simpa using this
  simp only[zag,List.flatMap_cons,List.length_append,List.length_map]at ih' ⊢
  simp only[List.getD_cons_zero]at h0
  rw[h0,ih',List.length_cons,Nat.add_mul];omega
theorem zeF {xs:List FD}{es:Nat}(h:∀i,i<xs.length→(xs.getD i .nilf).cells.length=es):∀{i j:Nat},i<xs.length→j<es→
  (zag xs).getD (i*es+j) .junk= .fz ((xs.getD i .nilf).cells.getD j .nilf):=by
 induction xs with
 |nil=>intro i j hi;simp at hi
 |cons x xs ih=>
  intro i j hi hj
  have h0:=h 0 (by simp)
  have h':∀i,i<xs.length→(xs.getD i .nilf).cells.length=es:=fun i hi=>by have:=h (i+1) (by simpa using hi);simpa using this
  simp only[List.getD_cons_zero]at h0
  have hfl:zag (x::xs)=x.cells.map .fz++zag xs:=by simp[zag]
  rw[hfl]
  cases i with
  |zero=>
   rw[Nat.zero_mul,Nat.zero_add,List.getD_eq_getElem?_getD,List.getElem?_append_left (by simpa[h0]using hj),←List.getD_eq_getElem?_getD,List.getD_cons_zero]
   exact zb0 _ _ (by omega)
  |succ i=>
   rw[List.getD_eq_getElem?_getD,List.getElem?_append_right (by simp[h0,Nat.add_mul];omega),←List.getD_eq_getElem?_getD]
   have e1:(i+1)*es+j-(List.map D.fz x.cells).length=i*es+j:=by simp[h0,Nat.add_mul];omega
   rw[e1,List.getD_cons_succ]
   exact ih h' (by simpa using hi) hj
def zbi (xs:List FD)(es:Nat):Prop:=∀x∈xs,x.cells.length=es
theorem za9 {xs:List FD}{es:Nat}(h:zbi xs es):∀i,i<xs.length→(xs.getD i .nilf).cells.length=es:=fun i hi=>by
 rw[List.getD_eq_getElem?_getD,List.getElem?_eq_getElem hi]
 exact h _ (List.getElem_mem hi)
def zbm (H:zas)(te:TI)(y:D):Option (Nat×List D×Prop):=
 match y with
 | .fz (.sl ys)=>some (ys.length,zag ys,zbi ys te.size)
 | .full ys=>some (ys.length,zag ys,zbi ys te.size)
 | .ow _ _ ys=>some (ys.length,zag ys,zbi ys te.size)
 | .arr id es s len=>
  match H id with
  |some o=>some (len,(o.cells.drop s).take (len*te.size),es=te.size∧s+len*te.size≤o.cells.length)
  |none=>none
 |_=>none
def Src (w:World)(L:Loc)(F:Nat→Nat→Prop)(U:Id→Prop)(es:Nat)(v:Value)(n:Nat)(cells:List D):Prop:=
 ∃a cap,v= .slice a n cap∧n≤cap∧n≤zaZ∧cells.length=n*es∧
  (0<n→∃b o,a=some ⟨b,o,none⟩∧∀j,j<cells.length→∃u,w.cell? ⟨b,o+j,none⟩=some u∧zak w L F U (cells.getD j .junk) u)
theorem zeq {w L F U}{ys:List FD}{v:Value}{es:Nat}(h:zbn w F v (.sl ys))(hl:zbi ys es):Src w L F U es v ys.length (zag ys):=by
 obtain⟨a,cap,rfl,h1,h2,h3⟩:=h.sl_inv
 have hl':=za9 hl
 refine⟨a,cap,rfl,h1,h2,zbN hl',fun hn=>?_⟩
 obtain⟨b,off,es',vs,rfl,hF,hes,hcs,hrep⟩:=h3 hn
 have:es'=es:=by rw[←hes 0 hn,hl' 0 hn]
 subst this
 refine⟨b,off,rfl,fun j hj=>?_⟩
 rw[zbN hl']at hj
 have hpos:0<es':=by
  rcases Nat.eq_zero_or_pos es' with h|h
  ·subst h;simp at hj
  ·exact h
 have hi:j / es'<ys.length:=by rw[Nat.div_lt_iff_lt_mul hpos];exact hj
 have hm:j % es'<es':=Nat.mod_lt _ hpos
 have hj':j / es'*es'+j % es'=j:=by rw[Nat.mul_comm];exact Nat.div_add_mod j es'
 refine⟨vs (j / es') (j % es'),?_,?_⟩
 ·have:=hcs _ _ hi hm;rw[Nat.add_assoc,hj']at this;exact this
 ·rw[←hj',zeF hl' hi hm,hj']
  simp only[zak]
  exact hrep _ _ hi hm
theorem zeY {ds:List D}{s k j:Nat}(h:j<k):((ds.drop s).take k).getD j .junk=ds.getD (s+j) .junk:=by
 simp only[List.getD_eq_getElem?_getD]
 rw[List.getElem?_take_of_lt h,List.getElem?_drop]
theorem zsb {G w L F U H}(hok:OkW G w L F U H){id:Id}{es s len:Nat}{v:Value}(h:zak w L F U (.arr id es s len) v){o:O}(ho:H id=some o)(hl:s+len*es≤o.cells.length):
  Src w L F U es v len ((o.cells.drop s).take (len*es)):=by
 simp only[zak]at h
 obtain⟨hU,a,cap,rfl,h1,h2,h3⟩:=h
 refine⟨a,cap,rfl,h1,h2,by simp;omega,fun hn=>?_⟩
 rcases h3 with h3|⟨rfl,hv,hL,hcap⟩
 ·omega
 refine⟨_,_,rfl,fun j hj=>?_⟩
 have hj':j<len*es:=by simp at hj;omega
 obtain⟨_,cs,T,hb,_,hcell⟩:=zaC (hok.live id o ho).2 hv
 obtain⟨u,g1,g2⟩:=hcell (s+j) (by omega)
 refine⟨u,by rw[zfY hb,Nat.add_assoc];exact g1,?_⟩
 rw[zeY hj'];exact g2
theorem zn7 {G w L F U H}(hok:OkW G w L F U H){te:TI}{y:D}{v:Value}{n cells c}(h:zbm H te y=some (n,cells,c))(hc:c)(hy:zak w L F U y v):Src w L F U te.size v n cells:=by
 unfold zbm at h
 split at h
 ·simp only[Option.some.injEq,Prod.mk.injEq]at h;obtain⟨rfl,rfl,rfl⟩:=h
  simp only[zak]at hy
  exact zeq hy hc
 ·simp only[Option.some.injEq,Prod.mk.injEq]at h;obtain⟨rfl,rfl,rfl⟩:=h
  simp only[zak]at hy
  obtain⟨a,_,hy⟩:=hy
  exact zeq hy hc
 ·simp only[Option.some.injEq,Prod.mk.injEq]at h;obtain⟨rfl,rfl,rfl⟩:=h
  simp only[zak]at hy
  exact zeq hy.2.1 hc
 ·split at h
  ·simp only[Option.some.injEq,Prod.mk.injEq]at h;obtain⟨rfl,rfl,rfl⟩:=h
   obtain⟨rfl,hc⟩:=hc
   exact zsb hok hy ‹_› hc
  ·cases h
 ·cases h
theorem Src.run {P:Program}{w L F U es v n cells}(h:Src w L F U es v n cells){w':World}(hw:w'.heap=w.heap):
  ∃f:Nat→Value,(Builtin.firstCells es n v).run P w'= .ok ((List.range (n*es)).map f).toArray w'∧∀j,j<n*es→zak w L F U (cells.getD j .junk) (f j):=by
 obtain⟨a,cap,rfl,h1,h2,h3,h4⟩:=h
 rcases Nat.eq_zero_or_pos n with rfl|hn
 ·exact⟨fun _=>undef,by rw[zaR];simp,fun j hj=>by simp at hj⟩
 ·obtain⟨b,o,rfl,hc⟩:=h4 hn
  obtain⟨f,hf⟩:=zdm hc
  rw[h3]at hf
  refine⟨f,ze4 f (fun j hj=>?_),fun j hj=>(hf j hj).2⟩
  have:=(hf j hj).1
  simp only[World.cell?,hw]at this ⊢
  exact this
end Go.Abs
namespace Go.Abs
open Go
theorem zsx (H:zas)(id:Id)(o):zaM H id o id=o:=by simp[zaM]
theorem zwW (H:zas){id j:Id}(o)(h:j≠id):zaM H id o j=H j:=by simp[zaM,h]
theorem zgS {G w L F U H}(hok:OkW G w L F U H){id:Id}{U':Id→Prop}(hid:¬U id)(hU:∀i,U i→U' i)(hid':U' id)(box:Bool):
  OkW G w (zcK L id ⟨0,0,true⟩) F U' (zaM H id (some ⟨[],box,true⟩))∧zbL H w L F U (zaM H id (some ⟨[],box,true⟩)) w (zcK L id ⟨0,0,true⟩) F U':=by
 have hLo:∀i,U i→zcK L id ⟨0,0,true⟩ i=L i:=fun i hi=>by
  unfold zcK;rw[if_neg (by rintro rfl;exact hid hi)]
 have hold:∀i o,zaM H id (some ⟨[],box,true⟩) i=some o→(zcK L id ⟨0,0,true⟩ i).3=false→H i=some o:=fun i o h hv=>by
  simp only[zaM]at h
  simp only[zcK]at hv
  split at h
  ·rename_i e;rw[if_pos e]at hv;cases hv
  ·exact h
 have hst:zbL H w L F U (zaM H id (some ⟨[],box,true⟩)) w (zcK L id ⟨0,0,true⟩) F U':=by
  refine⟨hU,hLo,fun _ _ h=>h,Nat.le_refl _,fun _ _ _=>rfl,fun _ _ _ _=>rfl,fun _ cs T fr _ h=>⟨cs,T,fr,h,Nat.le_refl _⟩,fun _ _ h=> .inl h,?_,rfl,rfl,rfl,Nat.le_refl _⟩
  rintro b k ⟨i,o,h1,h2,rfl,h4⟩
  have h3:=hold i o h1 h2
  rw[hLo i (hok.live i o h3).1]at h2 h4 ⊢
  exact .inr ⟨i,o,h3,h2,rfl,h4⟩
 refine⟨?_,hst⟩
 have e:=hst.ext hok
 refine⟨hok.fb,?_,?_,hok.glob⟩
 ·intro i o h1
  by_cases ei:i=id
  ·subst ei
   rw[zsx]at h1
   simp only[Option.some.injEq]at h1
   subst h1
   refine⟨hid',?_⟩
   simp[zb2,zcK]
  ·rw[zwW _ _ ei]at h1
   obtain⟨g1,g2⟩:=hok.live i o h1
   exact⟨hU _ g1,g2.ext e g1 fun hv=>⟨rfl,(zaC g2 hv).1⟩⟩
 ·intro i i' o o' h1 h2 hv hv' he
  have h3:=hold i o h1 hv
  have h4:=hold i' o' h2 hv'
  rw[hLo i (hok.live i o h3).1]at hv
  rw[hLo i' (hok.live i' o' h4).1]at hv'
  rw[hLo i (hok.live i o h3).1,hLo i' (hok.live i' o' h4).1]at he
  exact hok.inj i i' o o' h3 h4 hv hv' he
theorem zbO {l1 l2:List D}{j:Nat}(h:j<l1.length):(l1++l2).getD j .junk=l1.getD j .junk:=by
 simp only[List.getD_eq_getElem?_getD];rw[List.getElem?_append_left h]
theorem zbP {l1 l2:List D}{j:Nat}(h:l1.length≤j):(l1++l2).getD j .junk=l2.getD (j-l1.length) .junk:=by
 simp only[List.getD_eq_getElem?_getD];rw[List.getElem?_append_right h]
section
variable {P:Program} {G:Nat→List FD} {w:World} {L:Loc} {F:Nat→Nat→Prop} {U:Id→Prop} {H:zas}
theorem ziq (hok:OkW G w L F U H){t u ty e e':TypeId}{te:TI}(ht:P.underlying t=some (.slice e))(hu:P.underlying u=some (.slice e'))(hte:zaq P e=some te)
  {base:Option Addr}{len cap:Nat}{vy:Value}{n:Nat}{c1 c2:List D}(h1:Src w L F U te.size (.slice base len cap) len c1)(h2:Src w L F U te.size vy n c2)
  (hg:cap<len+n)(hf:fits (len+n) te.bytes){H':zas}(hH:∀i o,H' i=some o→H i=some o){id:Id}{U':Id→Prop}(hid:¬U id)(hU:∀i,U i→U' i)(hid':U' id):
  ∃v w' L',(Builtin.append_ #[t,u] ty #[.slice base len cap,vy]).run P w= .ok v w'∧OkW G w' L' F U' (zaM H' id (some ⟨c1++c2,false,false⟩))∧
   zak w' L' F U' (.arr id te.size 0 (len+n)) v∧zbL H w L F U (zaM H' id (some ⟨c1++c2,false,false⟩)) w' L' F U':=by
 obtain⟨i,z,d,g1,g2,g3,rfl⟩:=zaA hte
 have hz:=zeN hte
 dsimp only at h1 h2 hf ⊢
 simp only[List.length_map,Array.length_toList]at hz
 obtain⟨f1,r1,v1⟩:=h1.run (P:=P) (w':=w.drew) rfl
 obtain⟨f2,r2,v2⟩:=h2.run (P:=P) (w':=w.drew) rfl
 obtain⟨a',cap',he,_,_,l1,_⟩:=h1
 obtain⟨ya,yc,rfl,_,_,l2,_⟩:=h2
 have hrun:=zdt (P:=P) (w:=w) (ty:=ty) ht hu g1 g2 r1 r2 hg hf
 have hge:=zdU w (len+n) cap e
 generalize grownCap w (len+n) cap e=gc at hrun hge
 have hp:=zbQ.drewAlloc w (.cells (((List.range (len*i.size)).map f1).toArray++((List.range (n*i.size)).map f2).toArray++Builtin.zeroCells z.cells (gc-(len+n))) e)
 have hsub:=hok.sub hH
 obtain⟨k1,k2⟩:=zhC hsub hp (cells:=c1++c2) hid hU hid' (by simp[l1,l2]) (fun j hj=>by
  simp only[List.length_append,l1,l2]at hj
  by_cases hj1:j<len*i.size
  ·refine⟨f1 j,?_,by rw[zbO (by omega)];exact v1 j hj1⟩
   rw[Array.append_assoc,Array.getElem?_append_left (by simpa using hj1)]
   simp[hj1]
  ·have hj2:j-len*i.size<n*i.size:=by omega
   refine⟨f2 (j-len*i.size),?_,by rw[zbP (by omega),l1];exact v2 _ hj2⟩
   rw[Array.getElem?_append_left (by simp;omega),Array.getElem?_append_right (by simp;omega)]
   simp[hj2]) false
 refine⟨_,_,_,hrun,k1,?_,((zbL.refl H w L F U).sub hH).trans k2⟩
 simp only[zak]
 refine⟨hid',_,_,rfl,by omega,hf.1,.inr ⟨by simp[zcK],by simp[zcK],by simp[zcK],fun cs T fr hcs=>?_⟩⟩
 have hL:zcK L id ⟨w.heap.size,0,false⟩ id=⟨w.heap.size,0,false⟩:=by simp[zcK]
 rw[hL]at hcs ⊢
 rw[hp.new]at hcs
 simp only[Option.some.injEq,Obj.cells.injEq]at hcs
 obtain⟨rfl,_,_⟩:=hcs
 have e1:gc*i.size=len*i.size+n*i.size+(gc-(len+n))*i.size:=by
  rw[←Nat.add_mul,←Nat.add_mul];congr 1;omega
 simp[Builtin.zeroCells,hz]
 omega
theorem zmm (hok:OkW G w L F U H){t u ty e e':TypeId}{te:TI}(ht:P.underlying t=some (.slice e))(hu:P.underlying u=some (.slice e'))(hte:zaq P e=some te)
  {xs:List FD}{vx vy:Value}{n:Nat}{c2:List D}(hx:zak w L F U (.full xs) vx)(h2:Src w L F U te.size vy n c2)(hl:zbi xs te.size)(hs:0<te.size)
  (hn:0<n∨xs=[])(hf:fits (xs.length+n) te.bytes){id:Id}{U':Id→Prop}(hid:¬U id)(hU:∀i,U i→U' i)(hid':U' id):
  ∃v w' L',(Builtin.append_ #[t,u] ty #[vx,vy]).run P w= .ok v w'∧OkW G w' L' F U' (zaM H id (some ⟨zag xs++c2,false,(zag xs++c2).isEmpty⟩))∧
   zak w' L' F U' (.arr id te.size 0 (xs.length+n)) v∧zbL H w L F U (zaM H id (some ⟨zag xs++c2,false,(zag xs++c2).isEmpty⟩)) w' L' F U':=by
 simp only[zak]at hx
 obtain⟨a,rfl,hx⟩:=hx
 have h1:=zeq (L:=L) (U:=U) hx hl
 obtain⟨ya,yc,rfl,_,_,l2,_⟩:=_root_.id h2
 rcases Nat.eq_zero_or_pos n with rfl|hpos
 ·obtain rfl:xs=[]:=hn.resolve_left (by omega)
  have hc2:c2=[]:=List.length_eq_zero_iff.1 (by simpa using l2)
  subst hc2
  obtain⟨i,z,d,g1,g2,g3,rfl⟩:=zaA hte
  obtain⟨k1,k2⟩:=zgS hok hid hU hid' false
  refine⟨.slice a 0 0,w,zcK L id ⟨0,0,true⟩,?_,k1,?_,k2⟩
  ·have:=za3 (P:=P) (w:=w) (ty:=ty) (w':=w) ht hu g1 (base:=a) (sLen:=0) (sCap:=0) (xb:=ya) (n:=0) (xc:=yc) (news:= #[]) zaR (by omega) (fun a _=>by simp[storeCells]) (fun _=>rfl)
   simpa using this
  ·simp only[zak]
   exact⟨hid',a,0,rfl,by simp,by simp[zaZ],.inl rfl⟩
 ·have he:(zag xs++c2).isEmpty=false:=by
   have:0<c2.length:=by rw[l2];exact Nat.mul_pos hpos hs
   cases c2 with
   |nil=>simp at this
   |cons=>simp
  rw[he]
  exact ziq hok ht hu hte h1 h2 (by omega) hf (fun _ _ h=>h) hid hU hid'
theorem zox (hok:OkW G w L F U H){t u ty e e':TypeId}{te:TI}(ht:P.underlying t=some (.slice e))(hu:P.underlying u=some (.slice e'))(hte:zaq P e=some te)
  {aid:Id}{s len:Nat}{vx vy:Value}{n:Nat}{c2:List D}(hx:zak w L F U (.arr aid te.size s len) vx){o:O}(ho:H aid=some o)(hb:s+len*te.size≤o.cells.length)
  (h2:Src w L F U te.size vy n c2)(hone:c2.all zcJ=true)(hs:0<te.size)(hf:fits (len+n) te.bytes){id:Id}{U':Id→Prop}(hid:¬U id)(hU:∀i,U i→U' i)(hid':U' id):
  ∃v w' L',(Builtin.append_ #[t,u] ty #[vx,vy]).run P w= .ok v w'∧
   OkW G w' L' F U' (zaM (zaM H aid none) id (some ⟨(o.cells.drop s).take (len*te.size)++c2,false,o.virt&&((o.cells.drop s).take (len*te.size)++c2).isEmpty⟩))∧
   zak w' L' F U' (.arr id te.size 0 (len+n)) v∧
   zbL H w L F U (zaM (zaM H aid none) id (some ⟨(o.cells.drop s).take (len*te.size)++c2,false,o.virt&&((o.cells.drop s).take (len*te.size)++c2).isEmpty⟩)) w' L' F U':=by
 have h1:=zsb hok hx ho hb
 have hx':=hx
 simp only[zak]at hx'
 obtain⟨hUa,a,cap,rfl,q1,q2,q3⟩:=hx'
 obtain⟨ya,yc,rfl,_,_,l2,_⟩:=_root_.id h2
 have hsub:∀i x,zaM H aid none i=some x→H i=some x:=fun i x h=>by
  simp only[zaM]at h;split at h
  ·cases h
  ·exact h
 have hne:id≠aid:=by rintro rfl;exact hid hUa
 have hlen1:((o.cells.drop s).take (len*te.size)).length=len*te.size:=by simp;omega
 rcases Nat.lt_or_ge cap (len+n)with hg|hg
 ·have he:(o.virt&&((o.cells.drop s).take (len*te.size)++c2).isEmpty)=false:=by
   have:0<c2.length:=by rw[l2];exact Nat.mul_pos (by omega) hs
   cases c2 with
   |nil=>simp at this
   |cons=>simp
  rw[he]
  exact ziq hok ht hu hte h1 h2 hg hf hsub hid hU hid'
 ·obtain⟨i,z,d,g1,g2,g3,rfl⟩:=zaA hte
  dsimp only at*
  obtain⟨f2,r2,v2⟩:=h2.run (P:=P) (w':=w) rfl
  cases hv:(L aid).3
  ·
   obtain⟨_,cs,T,hblk,hfit,hcell⟩:=zaC (hok.live aid o ho).2 hv
   have hL':zcK L id ⟨(L aid).1,(L aid).2+s,false⟩ id=⟨(L aid).1,(L aid).2+s,false⟩:=by simp[zcK]
   have hLo:∀j,U j→zcK L id ⟨(L aid).1,(L aid).2+s,false⟩ j=L j:=fun j hj=>by
    unfold zcK;rw[if_neg (by rintro rfl;exact hid hj)]
   have hcapn:n=0∨(a=some ⟨(L aid).1,(L aid).2+s,none⟩∧(L aid).2+s+cap*i.size≤cs.size):=by
    rcases q3 with q3|⟨q3,_,_,q4⟩
    ·exact .inl (by omega)
    ·exact .inr ⟨q3,q4 _ _ _ hblk⟩
   have hroom:(L aid).2+s+len*i.size+n*i.size≤cs.size:=by
    rcases hcapn with rfl|⟨_,h⟩
    ·simp;omega
    ·have:(len+n)*i.size≤cap*i.size:=Nat.mul_le_mul_right _ hg
     rw[Nat.add_mul]at this;omega
   have hnl:((List.range (n*i.size)).map f2).length=n*i.size:=by simp
   have hone':∀u∈(List.range (n*i.size)).map f2,u.oneCell'=true:=by
    intro u hu'
    obtain⟨j,hj,rfl⟩:=List.mem_map.1 hu'
    have hj':j<n*i.size:=by simpa using hj
    rw[List.all_eq_true]at hone
    refine zhH (v2 j hj') (hone _ ?_)
    rw[List.getD_eq_getElem?_getD,List.getElem?_eq_getElem (by omega)]
    exact List.getElem_mem _
   have hrun:=zcA (P:=P) (b:=(L aid).1) (off:=(L aid).2+s+len*i.size) (T:=T) ((List.range (n*i.size)).map f2) 0 w cs hblk hone' (by rw[hnl];omega)
   have key:=zl9 hok ho hv hblk (zbu ((List.range (n*i.size)).map f2) 0 ((L aid).2+s+len*i.size) cs) (fun q hq=>by rw[za8 _ _ _ _ _ (by rw[hnl];omega),if_neg (by omega)]) (id':=id)
    (o':=⟨(o.cells.drop s).take (len*i.size)++c2,false,o.virt&&((o.cells.drop s).take (len*i.size)++c2).isEmpty⟩) (L':=zcK L id ⟨(L aid).1,(L aid).2+s,false⟩) (U':=U') hU hid' hLo (by rw[hL']) (by rw[hL'];simp) (by rw[hL']) (.inr hid)
    (by rw[hL'];simp only[List.length_append,hlen1,l2];omega) (fun j hj=>by
     simp only[List.length_append,hlen1,l2]at hj
     rw[hL',za8 _ _ _ _ _ (by rw[hnl];omega),hnl]
     dsimp only
     by_cases hj1:j<len*i.size
     ·rw[if_neg (by omega),zbO (by omega),zeY hj1,Nat.add_assoc]
      exact hcell (s+j) (by omega)
     ·have hj2:j-len*i.size<n*i.size:=by omega
      have e2:(L aid).2+s+j-((L aid).2+s+len*i.size+0)=j-len*i.size:=by omega
      rw[if_pos (by omega),zbP (by omega),hlen1,e2]
      exact⟨f2 (j-len*i.size),by simp[hj2],v2 _ hj2⟩)
   refine⟨.slice a (len+n) cap,_,_,?_,by simpa using key.1,?_,by simpa using key.2⟩
   ·refine za3 (P:=P) (w:=w) (ty:=ty) ht hu g1 r2 hg (fun x hx=>?_) (fun hn=>?_)
    ·rcases hcapn with rfl|⟨h,_⟩
     ·simp[storeCells,znb hblk]
     ·rw[h]at hx
      obtain rfl:=(Option.some.inj hx).symm
      rw[zby]
      simpa using hrun
    ·rcases hcapn with rfl|⟨h,_⟩
     ·simp[znb hblk]
     ·rw[h]at hn;cases hn
   ·simp only[zak]
    refine⟨hid',a,cap,rfl,hg,hf.1,?_⟩
    rcases q3 with q3|⟨q3,_,q5,q4⟩
    ·exact .inl q3
    ·refine .inr ⟨by rw[hL',q3];simp,by rw[hL'],by rw[hL',zfQ];exact q5,fun cs1 T1 fr1 h=>?_⟩
     rw[hL']at h ⊢
     rw[zdc (zct hblk)]at h
     simp only[Option.some.injEq,Obj.cells.injEq]at h
     obtain⟨rfl,_,_⟩:=h
     rw[zbu]
     have:=q4 _ _ _ hblk
     simpa using this
  ·
   have hor:=(hok.live aid o ho).2
   simp only[zb2,hv,if_true]at hor
   obtain⟨hor1,hor2⟩:=hor
   have hcap:cap=0:=by
    rcases q3 with q3|⟨_,q3,_⟩
    ·exact q3
    ·rw[hv]at q3;cases q3
   subst hcap
   obtain rfl:len=0:=by omega
   obtain rfl:n=0:=by omega
   have hc2:c2=[]:=List.length_eq_zero_iff.1 (by simpa using l2)
   subst hc2
   obtain⟨k1,k2⟩:=zgS (hok.sub hsub) hid hU hid' false
   refine⟨.slice a 0 0,w,zcK L id ⟨0,0,true⟩,?_,by simpa[hor2]using k1,?_,by simpa[hor2]using((zbL.refl H w L F U).sub hsub).trans k2⟩
   ·have:=za3 (P:=P) (w:=w) (ty:=ty) (w':=w) ht hu g1 (base:=a) (sLen:=0) (sCap:=0) (xb:=ya) (n:=0) (xc:=yc) (news:= #[]) zaR (by omega) (fun a _=>by simp[storeCells]) (fun _=>rfl)
    simpa using this
   ·simp only[zak]
    exact⟨hid',a,0,rfl,by simp,by simp[zaZ],.inl rfl⟩
theorem zhs {xs:List FD}{es b off cap:Nat}(hl:zbi xs es)(h1:xs.length≤cap)(h2:xs.length≤zaZ)(hF:∀k,k<xs.length*es→F b (off+k))
  (hc:∀k,k<xs.length*es→∃u,World.at w b (off+k)=some u∧zak w L F U ((zag xs).getD k .junk) u):zbn w F (.slice (some ⟨b,off,none⟩) xs.length cap) (.sl xs):=by
 refine zbn.sl_mk h1 h2 fun _=>?_
 obtain⟨f,hf⟩:=zdm hc
 refine⟨b,off,es,fun i j=>f (i*es+j),rfl,hF,za9 hl,fun i j hi hj=>?_,fun i j hi hj=>?_⟩
 ·rw[Nat.add_assoc];exact(hf _ (zpf hi hj)).1
 ·have:=(hf _ (zpf hi hj)).2
  rw[zeF (za9 hl) hi hj]at this
  simpa only[zak]using this
theorem zak.mono_ow {w w':World}{L L':Loc}{F F':Nat→Nat→Prop}{U U':Id→Prop}{x:FD}{v:Value}(h:zak w L F U (.fz x) v)(hk:∀b k,F b k→World.at w' b k=World.at w b k)(hF:∀b k,F b k→F' b k):zak w' L' F' U' (.fz x) v:=by
 simp only[zak]at h ⊢
 exact h.mono hk hF
theorem zgN {xs:List FD}{k:Nat}(hk:k<(zag xs).length):∃x,(zag xs).getD k .junk= .fz x:=by
 have:(zag xs).getD k .junk∈zag xs:=by
  rw[List.getD_eq_getElem?_getD,List.getElem?_eq_getElem hk];exact List.getElem_mem _
 simp only[zag,List.mem_flatMap,List.mem_map]at this
 obtain⟨_,_,x,_,h⟩:=this
 exact⟨x,h.symm⟩
def tok:O:=⟨[],false,true⟩
theorem zgj (hok:OkW G w L F U H){t u ty e e':TypeId}{te:TI}(ht:P.underlying t=some (.slice e))(hu:P.underlying u=some (.slice e'))(hte:zaq P e=some te)
  {base:Option Addr}{cap:Nat}{vy:Value}{xs ys:List FD}(hx:zbn w F (.slice base xs.length cap) (.sl xs))(h2:Src w L F U te.size vy ys.length (zag ys))(hlx:zbi xs te.size)(hly:zbi ys te.size)
  (hg:cap<xs.length+ys.length)(hf:fits (xs.length+ys.length) te.bytes){H':zas}(hH:∀i o,H' i=some o→H i=some o){id:Id}{U':Id→Prop}(hid:¬U id)(hU:∀i,U i→U' i)(hid':U' id):
  ∃v w' L' F',(Builtin.append_ #[t,u] ty #[.slice base xs.length cap,vy]).run P w= .ok v w'∧OkW G w' L' F' U' (zaM H' id (some tok))∧
   zak w' L' F' U' (.ow id te.size (xs++ys)) v∧zbL H w L F U (zaM H' id (some tok)) w' L' F' U':=by
 have h1:=zeq (L:=L) (U:=U) hx hlx
 obtain⟨i,z,d,g1,g2,g3,rfl⟩:=zaA hte
 have hz:=zeN hte
 dsimp only at*
 simp only[List.length_map,Array.length_toList]at hz
 obtain⟨f1,r1,v1⟩:=h1.run (P:=P) (w':=w.drew) rfl
 obtain⟨f2,r2,v2⟩:=h2.run (P:=P) (w':=w.drew) rfl
 obtain⟨ya,yc,rfl,_,_,l2,_⟩:=h2
 have hrun:=zdt (P:=P) (w:=w) (ty:=ty) ht hu g1 g2 r1 r2 hg hf
 have hge:=zdU w (xs.length+ys.length) cap e
 generalize grownCap w (xs.length+ys.length) cap e=gc at hrun hge
 have hp:=zbQ.drewAlloc w (.cells (((List.range (xs.length*i.size)).map f1).toArray++((List.range (ys.length*i.size)).map f2).toArray++Builtin.zeroCells z.cells (gc-(xs.length+ys.length))) e)
 have hsub:=hok.sub hH
 have hsz:((((List.range (xs.length*i.size)).map f1).toArray++((List.range (ys.length*i.size)).map f2).toArray++Builtin.zeroCells z.cells (gc-(xs.length+ys.length)))).size=xs.length*i.size+ys.length*i.size+(gc-(xs.length+ys.length))*i.size:=by
  simp[Builtin.zeroCells,hz]
 have hmul:(xs.length+ys.length)*i.size=xs.length*i.size+ys.length*i.size:=Nat.add_mul _ _ _
 obtain⟨k1,k2⟩:=zjD hsub hp (s:=(xs.length+ys.length)*i.size) (cells:=[]) hid hU hid' (by rw[hsz];simp only[List.length_nil];omega) (fun j hj=>by simp at hj) false true
 refine⟨_,_,_,_,hrun,k1,?_,((zbL.refl H w L F U).sub hH).trans k2⟩
 have hlall:zbi (xs++ys) i.size:=fun x hx=>by
  rcases List.mem_append.1 hx with h|h
  ·exact hlx x h
  ·exact hly x h
 have hfl:zag (xs++ys)=zag xs++zag ys:=by simp[zag]
 have hll:=zbN (za9 hlx)
 have hll2:=zbN (za9 hly)
 have ex:=k2.ext hsub
 have key:zbn (w.drew.alloc (.cells (((List.range (xs.length*i.size)).map f1).toArray++((List.range (ys.length*i.size)).map f2).toArray++Builtin.zeroCells z.cells (gc-(xs.length+ys.length))) e)) (fun b k=>F b k∨(b=w.heap.size∧k<(xs.length+ys.length)*i.size)) (.slice (some ⟨w.heap.size,0,none⟩) (xs++ys).length gc) (.sl (xs++ys)):=by
  refine zhs (L:=L) (U:=U) hlall (by rw[List.length_append];exact hge) (by rw[List.length_append];exact hf.1) (fun k hk=>?_) (fun k hk=>?_)
  ·rw[List.length_append]at hk
   exact .inr ⟨rfl,by omega⟩
  ·rw[List.length_append,hmul]at hk
   rw[zg9 hp.new,Nat.zero_add,hfl]
   by_cases hj1:k<xs.length*i.size
   ·refine⟨f1 k,?_,?_⟩
    ·rw[Array.append_assoc,Array.getElem?_append_left (by simpa using hj1)]
     simp[hj1]
    ·have h3:=v1 k hj1
     rw[zbO (by omega)]
     obtain⟨x,hx⟩:=zgN (xs:=xs) (k:=k) (by omega)
     rw[hx]at h3 ⊢
     exact h3.mono_ow ex.fk ex.f
   ·have hj2:k-xs.length*i.size<ys.length*i.size:=by omega
    refine⟨f2 (k-xs.length*i.size),?_,?_⟩
    ·rw[Array.getElem?_append_left (by simp;omega),Array.getElem?_append_right (by simp;omega)]
     simp[hj2]
    ·have h3:=v2 _ hj2
     rw[zbP (by omega),hll]
     obtain⟨x,hx⟩:=zgN (xs:=ys) (k:=k-xs.length*i.size) (by omega)
     rw[hx]at h3 ⊢
     exact h3.mono_ow ex.fk ex.f
 simp only[zak]
 rw[List.length_append]at key
 refine⟨hid',key,some ⟨w.heap.size,0,none⟩,gc,by rw[List.length_append],.inr ⟨w.heap.size,0,rfl,by simp[zcK,List.length_append],by rw[hp.size];omega,fun cs T fr hcs=>?_⟩⟩
 rw[hp.new]at hcs
 simp only[Option.some.injEq,Obj.cells.injEq]at hcs
 obtain⟨rfl,_,_⟩:=hcs
 rw[hsz,Nat.zero_add,←Nat.add_mul,←Nat.add_mul]
 exact Nat.mul_le_mul_right _ (by omega)
theorem zp9 (hok:OkW G w L F U H){t u ty e e':TypeId}{te:TI}(ht:P.underlying t=some (.slice e))(hu:P.underlying u=some (.slice e'))(hte:zaq P e=some te)
  {aid:Id}{vx vy:Value}{xs ys:List FD}(hx:zak w L F U (.ow aid te.size xs) vx){o:O}(ho:H aid=some o)(h2:Src w L F U te.size vy ys.length (zag ys))(hlx:zbi xs te.size)(hly:zbi ys te.size)(hone:(zag ys).all zcJ=true)
  (hf:fits (xs.length+ys.length) te.bytes){id:Id}{U':Id→Prop}(hid:¬U id)(hU:∀i,U i→U' i)(hid':U' id):
  ∃v w' L' F',(Builtin.append_ #[t,u] ty #[vx,vy]).run P w= .ok v w'∧OkW G w' L' F' U' (zaM (zaM H aid none) id (some tok))∧
   zak w' L' F' U' (.ow id te.size (xs++ys)) v∧zbL H w L F U (zaM (zaM H aid none) id (some tok)) w' L' F' U':=by
 simp only[zak]at hx
 obtain⟨hUa,hx,a,cap,rfl,hcap⟩:=hx
 have hle:xs.length≤cap:=by
  obtain⟨a',cap',he,h1,_⟩:=hx.sl_inv
  injection he with _ _ e3;omega
 have hsub:∀i x,zaM H aid none i=some x→H i=some x:=fun i x h=>by
  simp only[zaM]at h;split at h
  ·cases h
  ·exact h
 have hne:id≠aid:=by rintro rfl;exact hid hUa
 rcases Nat.lt_or_ge cap (xs.length+ys.length)with hg|hg
 ·exact zgj hok ht hu hte hx h2 hlx hly hg hf hsub hid hU hid'
 obtain⟨i,z,d,g1,g2,g3,rfl⟩:=zaA hte
 dsimp only at*
 obtain⟨f2,r2,v2⟩:=h2.run (P:=P) (w':=w) rfl
 obtain⟨ya,yc,rfl,_,_,l2,_⟩:=_root_.id h2
 rcases hcap with hcap|⟨b,off,rfl,hLa,hlt,hsz⟩
 ·
  have hy0:ys=[]:=List.eq_nil_of_length_eq_zero (by omega)
  subst hy0
  obtain⟨k1,k2⟩:=zgS (hok.sub hsub) hid hU hid' false
  refine⟨.slice a xs.length cap,w,zcK L id ⟨0,0,true⟩,F,?_,k1,?_,((zbL.refl H w L F U).sub hsub).trans k2⟩
  ·have:=za3 (P:=P) (w:=w) (ty:=ty) (w':=w) ht hu g1 (base:=a) (sLen:=xs.length) (sCap:=cap) (xb:=ya) (n:=0) (xc:=yc) (news:= #[]) zaR (by omega) (fun a _=>by simp[storeCells]) (fun _=>rfl)
   simpa using this
  ·simp only[zak,List.append_nil]
   exact⟨hid',hx,a,cap,rfl,.inl hcap⟩
 ·have hv:(L aid).3=false:=by rw[hLa]
  obtain⟨hnF,cs,T,hblk,hfit,_⟩:=zaC (hok.live aid o ho).2 hv
  have hLa1:(L aid).1=b:=by rw[hLa]
  have hLa2:(L aid).2=off+xs.length*i.size:=by rw[hLa]
  rw[hLa1]at hblk
  have hcs:=hsz _ _ _ hblk
  have hmul:(xs.length+ys.length)*i.size=xs.length*i.size+ys.length*i.size:=Nat.add_mul _ _ _
  have hroom:off+xs.length*i.size+ys.length*i.size≤cs.size:=by
   have:(xs.length+ys.length)*i.size≤cap*i.size:=Nat.mul_le_mul_right _ hg
   omega
  have hnl:((List.range (ys.length*i.size)).map f2).length=ys.length*i.size:=by simp
  have hll2:=zbN (za9 hly)
  have hone':∀u∈(List.range (ys.length*i.size)).map f2,u.oneCell'=true:=by
   intro u hu'
   obtain⟨j,hj,rfl⟩:=List.mem_map.1 hu'
   have hj':j<ys.length*i.size:=by simpa using hj
   rw[List.all_eq_true]at hone
   refine zhH (v2 j hj') (hone _ ?_)
   rw[List.getD_eq_getElem?_getD,List.getElem?_eq_getElem (by omega)]
   exact List.getElem_mem _
  have hrun:=zcA (P:=P) (b:=b) (off:=off+xs.length*i.size) (T:=T) ((List.range (ys.length*i.size)).map f2) 0 w cs hblk hone' (by rw[hnl];omega)
  have hL':zcK L id ⟨b,off+(xs.length+ys.length)*i.size,false⟩ id=⟨b,off+(xs.length+ys.length)*i.size,false⟩:=by simp[zcK]
  have hLo:∀j,U j→zcK L id ⟨b,off+(xs.length+ys.length)*i.size,false⟩ j=L j:=fun j hj=>by
   unfold zcK;rw[if_neg (by rintro rfl;exact hid hj)]
  have hlow:∀q,q<off+xs.length*i.size→((((List.range (ys.length*i.size)).map f2).zipIdx 0).foldl (fun cs (p:Value×Nat)=>cs.setIfInBounds (off+xs.length*i.size+p.2) p.1) cs)[q]?=cs[q]?:=fun q hq=>by
   rw[za8 _ _ _ _ _ (by rw[hnl];omega),if_neg (by omega)]
  have key:=zi5 hok ho hv (by rw[hLa1];exact hblk) (zbu ((List.range (ys.length*i.size)).map f2) 0 (off+xs.length*i.size) cs) (fun q hq=>hlow q (by rw[←hLa2];exact hq)) (id':=id)
   (o':=tok) (L':=zcK L id ⟨b,off+(xs.length+ys.length)*i.size,false⟩) (U':=U') hU hid' hLo (by rw[hL',hLa1]) (by rw[hL',hLa2];simp only;omega) (by rw[hL']) (.inr hid)
   (F':=fun b' k=>F b' k∨(b'=b∧off+xs.length*i.size≤k∧k<off+(xs.length+ys.length)*i.size)) (fun _ _ h=> .inl h) (fun b' k h=>by rw[hL',hLa1,hLa2];exact h)
   (by rw[hL'];simp only[tok,List.length_nil];omega) (fun j hj=>by simp[tok]at hj)
  rw[hLa1]at key
  obtain⟨k1,k2⟩:=key
  have e:=k2.ext hok
  refine⟨.slice (some ⟨b,off,none⟩) (xs.length+ys.length) cap,_,_,_,?_,k1,?_,k2⟩
  ·refine za3 (P:=P) (w:=w) (ty:=ty) ht hu g1 r2 hg (fun x hx=>?_) (fun hn=>by cases hn)
   obtain rfl:=(Option.some.inj hx).symm
   rw[zby]
   simpa using hrun
  ·have hlall:zbi (xs++ys) i.size:=fun x hx=>by
    rcases List.mem_append.1 hx with h|h
    ·exact hlx x h
    ·exact hly x h
   have hfl:zag (xs++ys)=zag xs++zag ys:=by simp[zag]
   have hll:=zbN (za9 hlx)
   obtain⟨a1,c1,he1,q1,q2,_,q4⟩:=zeq (L:=L) (U:=U) hx hlx
   injection he1 with e1 _ _
   subst e1
   simp only[zak]
   refine⟨hid',?_,some ⟨b,off,none⟩,cap,by rw[List.length_append],.inr ⟨b,off,rfl,by rw[hL',List.length_append],by rw[zfQ];exact hlt,fun cs1 T1 fr1 h=>?_⟩⟩
   ·have hap:(xs++ys).length=xs.length+ys.length:=List.length_append
    have key2:=@zhs (w:=zh8 w b (.cells ((((List.range (ys.length*i.size)).map f2).zipIdx 0).foldl (fun cs (p:Value×Nat)=>cs.setIfInBounds (off+xs.length*i.size+p.2) p.1) cs) T (0,0))) (F:=fun b' k=>F b' k∨(b'=b∧off+xs.length*i.size≤k∧k<off+(xs.length+ys.length)*i.size)) (L:=L) (U:=U) (xs:=xs++ys) (es:=i.size) (b:=b) (off:=off) (cap:=cap)
    rw[hap]at key2
    refine key2 hlall hg hf.1 (fun k hk=>?_) (fun k hk=>?_)
    ·rw[hmul]at hk
     by_cases hj1:k<xs.length*i.size
     ·left
      have hpos:0<xs.length:=by
       rcases Nat.eq_zero_or_pos xs.length with h|h
       ·rw[h]at hj1;simp at hj1
       ·exact h
      obtain⟨_,_,_,_,_,h3⟩:=hx.sl_inv
      rename_i he _ _
      obtain⟨b2,off2,es2,vs2,hab,hF2,hes2,_⟩:=h3 hpos
      injection he with he1 _ _
      rw[←he1]at hab
      injection hab with hab
      injection hab with hb2 hoff2
      have hes3:es2=i.size:=by rw[←hes2 0 hpos,za9 hlx 0 hpos]
      subst hb2 hoff2 hes3
      exact hF2 k hj1
     ·right
      exact⟨rfl,by omega,by omega⟩
    ·rw[hmul]at hk
     rw[zg9 (zdc (zct hblk)),hfl]
     by_cases hj1:k<xs.length*i.size
     ·have hpos:0<xs.length:=by
       rcases Nat.eq_zero_or_pos xs.length with h|h
       ·rw[h]at hj1;simp at hj1
       ·exact h
      obtain⟨b3,o3,hab,hc3⟩:=q4 hpos
      injection hab with hab
      injection hab with hb3 ho3
      subst hb3 ho3
      obtain⟨u,u1,u2⟩:=hc3 k (by omega)
      rw[zfY hblk]at u1
      rw[hlow _ (by omega)]
      refine⟨u,u1,?_⟩
      rw[zbO (by omega)]
      obtain⟨x,hx⟩:=zgN (xs:=xs) (k:=k) (by omega)
      rw[hx]at u2 ⊢
      exact u2.mono_ow e.fk e.f
     ·have hj2:k-xs.length*i.size<ys.length*i.size:=by omega
      rw[za8 _ _ _ _ _ (by rw[hnl];omega),hnl,if_pos (by omega)]
      have e2:off+k-(off+xs.length*i.size+0)=k-xs.length*i.size:=by omega
      refine⟨f2 (k-xs.length*i.size),by rw[e2];simp[hj2],?_⟩
      have h3:=v2 _ hj2
      rw[zbP (by omega),hll]
      obtain⟨x,hx⟩:=zgN (xs:=ys) (k:=k-xs.length*i.size) (by omega)
      rw[hx]at h3 ⊢
      exact h3.mono_ow e.fk e.f
   ·rw[zdc (zct hblk)]at h
    simp only[Option.some.injEq,Obj.cells.injEq]at h
    obtain⟨rfl,_,_⟩:=h
    rw[zbu]
    exact hcs
end
end Go.Abs
namespace Go.Abs
open Go
section
variable {P:Program} {G:Nat→List FD} {w:World} {L:Loc} {F:Nat→Nat→Prop} {U:Id→Prop} {H:zas}
theorem zoz {j:Nat}(ar:Array Value)(h:j<ar.size):ar[j]?=some (ar.getD j undef):=by
 simp[Array.getD_eq_getD_getElem?,h]
theorem zjs {size:Nat}:∀(pv:List Value) (k:Nat) (vs:Array Value),vs.size=(k+pv.length)*size→(∀v∈pv,v.cells.size=size)→
  ∃us,Instr.fill (fun i=>some (i*size,size)) vs ((pv.zipIdx k).map fun p=>(p.2,p.1))=some us∧us.size=vs.size∧(∀j,j<k*size→us[j]?=vs[j]?)∧
   ∀i j,i<pv.length→j<size→us[(k+i)*size+j]?=(pv.getD i undef).cells[j]?
 |[],k,vs,_,_=>⟨vs,rfl,rfl,fun _ _=>rfl,fun i j hi=>by simp at hi⟩
 |v::pv,k,vs,hsz,hall=>by
  have hv:v.cells.size=size:=hall v (by simp)
  have hk:(k+(pv.length+1))*size=k*size+size+pv.length*size:=by rw[Nat.add_mul,Nat.add_mul];omega
  simp only[List.length_cons]at hsz
  have hset:(v.cells.zipIdx.foldl (fun cs (c,j)=>cs.setIfInBounds (k*size+j) c) vs)=(v.cells.toList.zipIdx.foldl (fun cs (p:Value×Nat)=>cs.setIfInBounds (k*size+p.2) p.1) vs):=by
   rw[←Array.foldl_toList,Array.toList_zipIdx]
  have hvs:vs.size=k*size+size+pv.length*size:=hsz.trans hk
  have hk1:(k+1)*size=k*size+size:=by rw[Nat.add_mul];omega
  have hsz':=zbu v.cells.toList 0 (k*size) vs
  obtain⟨us,h1,h2,h3,h4⟩:=zjs pv (k+1) _ (by rw[hsz',hsz];congr 1;omega) (fun u hu=>hall u (List.mem_cons_of_mem _ hu))
  refine⟨us,?_,by rw[h2,hsz'],fun j hj=>?_,fun i j hi hj=>?_⟩
  ·simp only[List.zipIdx_cons,List.map_cons,Instr.fill]
   rw[if_neg (by rw[hv];simp;omega),hset]
   exact h1
  ·rw[h3 j (by omega),za8 _ _ _ _ _ (by simp;omega),if_neg (by simp;omega)]
  ·cases i with
   |zero=>
    rw[h3 _ (by rw[hk1,Nat.add_zero];omega),za8 _ _ _ _ _ (by simp;omega),if_pos (by simp;omega)]
    simp[show k*size+j-k*size=j by omega]
   |succ i=>
    have:=h4 i j (by simpa using hi) hj
    rw[show k+(i+1)=k+1+i by omega]
    simpa using this
theorem zlY {ds:List D}{xs:List FD}(h:D.toFDs ds=some xs):xs.length=ds.length:=by
 induction ds generalizing xs with
 |nil=>simp only[D.toFDs,Option.some.injEq]at h;subst h;rfl
 |cons d ds ih=>
  simp only[D.toFDs]at h
  split at h
  ·rename_i h1 h2;obtain rfl:=(Option.some.inj h).symm;simp[ih h2]
  ·cases h
theorem zpc {v:Value}{x:FD}(h:zbn w F v x):v.cells.size=x.cells.length∧∀j,j<x.cells.length→zbn w F (v.cells.getD j undef) (x.cells.getD j .nilf):=by
 have h1:zak w (fun _=>⟨0,0,false⟩) F (fun _=>True) (.fz x) v:=by simpa only[zak]using h
 have h2:=zak.cs h1 (by simp)
 rw[zap.iff]at h2
 obtain⟨h3,h4⟩:=h2
 simp only[D.cs,List.length_map,Array.length_toList]at h3 h4
 refine⟨h3,fun j hj=>?_⟩
 have:=h4 j hj
 rw[zb0 _ _ hj]at this
 simp only[zak]at this
 simpa[List.getD_eq_getElem?_getD,Array.getD_eq_getD_getElem?]using this
theorem zji (hok:OkW G w L F U H){t:TypeId}{te:TI}{n:Nat}{ps:Array (Nat×Operand)}{ev:Operand→D}{ρ:Operand→Value}(hte:zau P t=some te)
  (hidx:ps.toList.map (·.1)=List.range n){xs:List FD}(hx:D.toFDs (ps.toList.map fun p=>ev p.2)=some xs)(hl:zbi xs te.size)(hn:n*te.size≤2^24)(hmax:n≤zaZ)
  (hr:∀x,zak w L F U (ev x) (ρ x)):
  ∃v w' F',(Instr.buildSlice t n (ps.map fun(i,x)=>(i,ρ x))).run P w= .ok v w'∧OkW G w' L F' U H∧zak w' L F' U (.full xs) v∧zbL H w L F U H w' L F' U:=by
 obtain⟨e,hu,he⟩:=za0 hte
 have hlen:xs.length=n:=by
  rw[zlY hx,List.length_map]
  have:=congrArg List.length hidx
  simpa using this
 obtain⟨hl1,hl2⟩:=zap.toFDs _ _ _ (zap.iff (w:=w) (L:=L) (F:=F) (U:=U) (ps.toList.map fun p=>ev p.2) (ps.toList.map fun p=>ρ p.2)|>.2
  ⟨by simp,fun j hj=>by
   have hj':j<ps.toList.length:=by simpa using hj
   simp only[List.getD_eq_getElem?_getD,List.getElem?_map,List.getElem?_eq_getElem hj',Option.map_some,Option.getD_some]
   exact hr _⟩) hx
 have hpv:(ps.map fun(i,x)=>(i,ρ x)).toList=((ps.toList.map fun p=>ρ p.2).zipIdx 0).map fun p=>(p.2,p.1):=by
  apply List.ext_getElem?
  intro j
  simp only[Array.toList_map,List.getElem?_map,List.getElem?_zipIdx]
  have:=congrArg (fun l=>l[j]?) hidx
  simp only[List.getElem?_map]at this
  cases hj:ps.toList[j]? with
  |none=>simp
  |some p=>
   have hjn:j<n:=by
    have h1:j<ps.toList.length:=by
     rcases Nat.lt_or_ge j ps.toList.length with h|h
     ·exact h
     ·rw[List.getElem?_eq_none h]at hj;cases hj
    have:=congrArg List.length hidx
    simp at this h1;omega
   rw[hj,List.getElem?_range hjn]at this
   simp at this
   simp[this]
 have hcells:∀i,i<n→((ps.toList.map fun p=>ρ p.2).getD i undef).cells.size=te.size∧∀j,j<te.size→
   zbn w F (((ps.toList.map fun p=>ρ p.2).getD i undef).cells.getD j undef) ((xs.getD i .nilf).cells.getD j .nilf):=fun i hi=>by
  obtain⟨c1,c2⟩:=zpc (hl2 i (by omega))
  rw[za9 hl i (by omega)]at c1 c2
  exact⟨c1,c2⟩
 have hall:∀v∈(ps.toList.map fun p=>ρ p.2),v.cells.size=te.size:=by
  intro v hv
  obtain⟨i,hi,rfl⟩:=List.getElem_of_mem hv
  have hi':i<n:=by have:=hl1;simp only[List.length_map]at this hi;omega
  have:=(hcells i hi').1
  rwa [List.getD_eq_getElem?_getD,List.getElem?_eq_getElem hi]at this
 have hpl:(ps.toList.map fun p=>ρ p.2).length=n:=by rw[hl1,hlen]
 obtain⟨inf,z,u,g1,g2,g3,rfl⟩:=zaA he
 dsimp only at*
 obtain⟨us,k1,k2,k3,k4⟩:=zjs (size:=inf.size) (ps.toList.map fun p=>ρ p.2) 0
  ((Array.range (n*inf.size)).map fun j=>(if n*inf.size=0 then #[]else z.cells)[j % (if n*inf.size=0 then #[]else z.cells).size]!) (by simp[hpl]) hall
 have hp:=zbQ.alloc w (.cells us e)
 obtain⟨o1,o2⟩:=zrs hok hp
 have hrun:(Instr.buildSlice t n (ps.map fun(i,x)=>(i,ρ x))).run P w= .ok (.slice (some ⟨w.heap.size,0,none⟩) n n) (w.alloc (.cells us e)):=by
  simp only[Instr.buildSlice,Sem.run_bind,run_underlying hu,Result.andThen_ok,sizeOf,typeInfo,run_program,g1,Sem.run_pure,Sem.run_ite,if_neg (show¬(n*inf.size>2^24) by omega),zeroValue,g2]
  rw[hpv]
  by_cases h0:n*inf.size=0
  ·simp only[h0,if_true]at k1 ⊢
   simp only[k1]
   simp[newRow]
  ·simp only[h0,if_false]at k1 ⊢
   simp only[k1]
   simp[newRow]
 refine⟨_,_,_,hrun,o1,?_,o2⟩
 simp only[zak]
 refine⟨some ⟨w.heap.size,0,none⟩,by rw[hlen],?_⟩
 have:=zbn.sl_mk (w:=w.alloc (.cells us e)) (F:=fun b k=>F b k∨b=w.heap.size) (xs:=xs) (a:=some ⟨w.heap.size,0,none⟩) (cap:=n) (by omega) (by omega) (fun hpos=>
  ⟨w.heap.size,0,inf.size,fun i j=>((ps.toList.map fun p=>ρ p.2).getD i undef).cells.getD j undef,rfl,fun _ _=> .inr rfl,za9 hl,fun i j hi hj=>by
   have h5:=k4 i j (by omega) hj
   have h6:=(hcells i (by omega)).1
   rw[zg9 hp.new]
   rw[Nat.zero_add]at h5 ⊢
   rw[h5]
   exact zoz _ (by rw[h6];exact hj),fun i j hi hj=>((hcells i (by omega)).2 j hj).mono (o2.ext hok).fk (o2.ext hok).f⟩)
 rwa [hlen]at this
def zun (n:Nat)(d:D):Bool:=d.known&&d.cs.length==n
theorem zfq {α:Type}{f:α→List D}{es:Nat}:∀{l:List α},(∀x∈l,(f x).length=es)→(l.flatMap f).length=l.length*es∧
  ∀i (hi:i<l.length) j,j<es→(l.flatMap f).getD (i*es+j) .junk=(f l[i]).getD j .junk
 |[],_=>⟨by simp,fun i hi=>by simp at hi⟩
 |x::l,h=>by
  have h0:=h x (by simp)
  obtain⟨h1,h2⟩:=zfq (l:=l) fun y hy=>h y (List.mem_cons_of_mem _ hy)
  refine⟨by rw[List.flatMap_cons,List.length_append,h1,h0,List.length_cons,Nat.add_mul];omega,fun i hi j hj=>?_⟩
  rw[List.flatMap_cons]
  cases i with
  |zero=>rw[Nat.zero_mul,Nat.zero_add,List.getD_eq_getElem?_getD,List.getElem?_append_left (by omega),←List.getD_eq_getElem?_getD];rfl
  |succ i=>
   have e1:(i+1)*es+j-(f x).length=i*es+j:=by rw[Nat.add_mul];omega
   rw[List.getD_eq_getElem?_getD,List.getElem?_append_right (by rw[Nat.add_mul];omega),←List.getD_eq_getElem?_getD,e1]
   exact h2 i (by simpa using hi) j hj
theorem zmp (hok:OkW G w L F U H){t:TypeId}{te:TI}{n:Nat}{ps:Array (Nat×Operand)}{ev:Operand→D}{ρ:Operand→Value}(hte:zau P t=some te)
  (hidx:ps.toList.map (·.1)=List.range n)(hone:ps.toList.all (fun p=>zun te.size (ev p.2))=true)(hn:n≤2^24)(hn2:n*te.size≤2^24)
  (hr:∀x,zak w L F U (ev x) (ρ x)){id:Id}{U':Id→Prop}(hid:¬U id)(hU:∀i,U i→U' i)(hid':U' id):
  ∃v w' L',(Instr.buildSlice t n (ps.map fun(i,x)=>(i,ρ x))).run P w= .ok v w'∧OkW G w' L' F U' (zaM H id (some ⟨ps.toList.flatMap fun p=>(ev p.2).cs,false,false⟩))∧zak w' L' F U' (.arr id te.size 0 n) v∧
   zbL H w L F U (zaM H id (some ⟨ps.toList.flatMap fun p=>(ev p.2).cs,false,false⟩)) w' L' F U':=by
 obtain⟨e,hu,he⟩:=za0 hte
 have hpl:(ps.toList.map fun p=>ρ p.2).length=n:=by
  have:=congrArg List.length hidx
  simpa using this
 have hpv:(ps.map fun(i,x)=>(i,ρ x)).toList=((ps.toList.map fun p=>ρ p.2).zipIdx 0).map fun p=>(p.2,p.1):=by
  apply List.ext_getElem?
  intro j
  simp only[Array.toList_map,List.getElem?_map,List.getElem?_zipIdx]
  have:=congrArg (fun l=>l[j]?) hidx
  simp only[List.getElem?_map]at this
  cases hj:ps.toList[j]? with
  |none=>simp
  |some p=>
   have hjn:j<n:=by
    have h1:j<ps.toList.length:=by
     rcases Nat.lt_or_ge j ps.toList.length with h|h
     ·exact h
     ·rw[List.getElem?_eq_none h]at hj;cases hj
    have:=congrArg List.length hidx
    simp at this h1;omega
   rw[hj,List.getElem?_range hjn]at this
   simp at this
   simp[this]
 have hlenP:ps.toList.length=n:=by simpa using hpl
 have hw:∀p∈ps.toList,(ev p.2).known=true∧(ev p.2).cs.length=te.size:=fun p hp=>by
  have h1:=List.all_eq_true.1 hone p hp
  simpa[zun]using h1
 have hcell:∀i (hi:i<ps.toList.length),(ρ ps.toList[i].2).cells.size=te.size∧∀j,j<te.size→zak w L F U ((ev ps.toList[i].2).cs.getD j .junk) ((ρ ps.toList[i].2).cells.toList.getD j undef):=fun i hi=>by
  obtain⟨h1,h2⟩:=hw _ (List.getElem_mem hi)
  have h4:=(zap.iff _ _).1 (zak.cs (hr ps.toList[i].2) (zgO h1))
  rw[h2]at h4
  exact⟨by simpa using h4.1,h4.2⟩
 have hall:∀v∈(ps.toList.map fun p=>ρ p.2),v.cells.size=te.size:=by
  intro v hv
  obtain⟨i,hi,rfl⟩:=List.getElem_of_mem hv
  rw[List.getElem_map]
  exact(hcell i (by simpa using hi)).1
 obtain⟨hfl,hfg⟩:=zfq (f:=fun p:Nat×Operand=>(ev p.2).cs) fun p hp=>(hw p hp).2
 obtain⟨inf,z,u,g1,g2,g3,rfl⟩:=zaA he
 dsimp only at*
 obtain⟨us,k1,k2,k3,k4⟩:=zjs (size:=inf.size) (ps.toList.map fun p=>ρ p.2) 0
  ((Array.range (n*inf.size)).map fun j=>(if n*inf.size=0 then #[]else z.cells)[j % (if n*inf.size=0 then #[]else z.cells).size]!) (by simp[hpl]) hall
 have hp:=zbQ.alloc w (.cells us e)
 have hus:us.size=n*inf.size:=by rw[k2];simp
 have hrun:(Instr.buildSlice t n (ps.map fun(i,x)=>(i,ρ x))).run P w= .ok (.slice (some ⟨w.heap.size,0,none⟩) n n) (w.alloc (.cells us e)):=by
  simp only[Instr.buildSlice,Sem.run_bind,run_underlying hu,Result.andThen_ok,sizeOf,typeInfo,run_program,g1,Sem.run_pure,Sem.run_ite,if_neg (show¬(n*inf.size>2^24) by omega),zeroValue,g2]
  rw[hpv]
  by_cases h0:n*inf.size=0
  ·simp only[h0,if_true]at k1 ⊢
   simp only[k1]
   simp[newRow]
  ·simp only[h0,if_false]at k1 ⊢
   simp only[k1]
   simp[newRow]
 obtain⟨o1,o2⟩:=zhC hok hp hid hU hid' (cells:=ps.toList.flatMap fun p=>(ev p.2).cs) (by rw[hfl,hlenP,hus];exact Nat.le_refl _) (fun k hk=>by
  rw[hfl]at hk
  have hpos:0<inf.size:=by
   rcases Nat.eq_zero_or_pos inf.size with h|h
   ·rw[h]at hk;simp at hk
   ·exact h
  have hi:k / inf.size<ps.toList.length:=(Nat.div_lt_iff_lt_mul hpos).2 hk
  have hj:k % inf.size<inf.size:=Nat.mod_lt _ hpos
  have hkk:k / inf.size*inf.size+k % inf.size=k:=by rw[Nat.mul_comm];exact Nat.div_add_mod k inf.size
  have h3:=k4 (k / inf.size) (k % inf.size) (by rw[hpl,←hlenP];exact hi) hj
  have h4:=hfg _ hi _ hj
  obtain⟨c1,c2⟩:=hcell _ hi
  rw[Nat.zero_add,hkk]at h3
  rw[hkk]at h4
  refine⟨(ρ ps.toList[k / inf.size].2).cells.toList.getD (k % inf.size) undef,?_,?_⟩
  ·rw[h3,List.getD_eq_getElem?_getD,List.getElem?_map,List.getElem?_eq_getElem hi]
   simp only[Option.map_some,Option.getD_some]
   have h5:k % inf.size<(ρ ps.toList[k / inf.size].2).cells.size:=by rw[c1];exact hj
   rw[Array.getElem?_eq_getElem h5,List.getD_eq_getElem?_getD,List.getElem?_eq_getElem (by simpa using h5)]
   simp
  ·rw[h4];exact c2 _ hj) false
 refine⟨_,_,_,hrun,o1,?_,o2⟩
 simp only[zak]
 refine⟨hid',some ⟨w.heap.size,0,none⟩,n,rfl,Nat.le_refl _,by unfold zaZ;omega,.inr ⟨by simp[zcK],by simp[zcK],by simp[zcK,hp.size],fun cs T fr hc=>?_⟩⟩
 have:cs=us:=by
  have h1:=hp.new
  simp only[zcK,if_true]at hc
  rw[h1]at hc
  injection hc with hc
  injection hc with hc
  exact hc.symm
 subst this
 simp[zcK,hus]
theorem zoy (hok:OkW G w L F U H){t u ty e e':TypeId}{te:TI}(ht:P.underlying t=some (.slice e))(hu:P.underlying u=some (.slice e'))(hte:zaq P e=some te)
  {xs ys:List FD}{vx vy:Value}(hx:zak w L F U (.full xs) vx)(hy:zbn w F vy (.sl ys))(hl:zbi xs te.size)(hly:zbi ys te.size)
  (hf:fits (xs.length+ys.length) te.bytes):
  ∃v w' F',(Builtin.append_ #[t,u] ty #[vx,vy]).run P w= .ok v w'∧OkW G w' L F' U H∧zak w' L F' U (.fz (.sl (xs++ys))) v∧zbL H w L F U H w' L F' U:=by
 have h2:=zeq (L:=L) (U:=U) hy hly
 simp only[zak]at hx
 obtain⟨a,rfl,hx⟩:=hx
 have h1:=zeq (L:=L) (U:=U) hx hl
 obtain⟨i,z,d,g1,g2,g3,rfl⟩:=zaA hte
 dsimp only at*
 rcases Nat.eq_zero_or_pos ys.length with h0|hpos
 ·obtain rfl:=List.length_eq_zero_iff.1 h0
  obtain⟨ya,yc,rfl,_⟩:=h2
  refine⟨.slice a xs.length xs.length,w,F,?_,hok,by simpa only[zak,List.append_nil]using hx,zbL.refl _ _ _ _ _⟩
  have:=za3 (P:=P) (w:=w) (ty:=ty) (w':=w) ht hu g1 (base:=a) (sLen:=xs.length) (sCap:=xs.length) (xb:=ya) (n:=0) (xc:=yc) (news:= #[]) zaR (by omega) (fun a _=>by simp[storeCells]) (fun _=>rfl)
  simpa using this
 ·obtain⟨f1,r1,v1⟩:=h1.run (P:=P) (w':=w.drew) rfl
  obtain⟨f2,r2,v2⟩:=h2.run (P:=P) (w':=w.drew) rfl
  obtain⟨ya,yc,rfl,_⟩:=h2
  have hrun:=zdt (P:=P) (w:=w) (ty:=ty) ht hu g1 g2 r1 r2 (by omega) hf
  have hge:=zdU w (xs.length+ys.length) xs.length e
  generalize grownCap w (xs.length+ys.length) xs.length e=gc at hrun hge
  have hp:=zbQ.drewAlloc w (.cells (((List.range (xs.length*i.size)).map f1).toArray++((List.range (ys.length*i.size)).map f2).toArray++Builtin.zeroCells z.cells (gc-(xs.length+ys.length))) e)
  obtain⟨o1,o2⟩:=zrs hok hp
  refine⟨_,_,_,hrun,o1,?_,o2⟩
  simp only[zak]
  have hfl:(zag (xs++ys))=zag xs++zag ys:=by simp[zag]
  have hlall:zbi (xs++ys) i.size:=fun x hx=>by
   rcases List.mem_append.1 hx with h|h
   ·exact hl x h
   ·exact hly x h
  have:=zbn.sl_mk (w:=w.drew.alloc (.cells (((List.range (xs.length*i.size)).map f1).toArray++((List.range (ys.length*i.size)).map f2).toArray++Builtin.zeroCells z.cells (gc-(xs.length+ys.length))) e))
   (F:=fun b k=>F b k∨b=w.heap.size) (xs:=xs++ys) (a:=some ⟨w.heap.size,0,none⟩) (cap:=gc) (by simpa using hge) (by simpa using hf.1) (fun _=>
   ⟨w.heap.size,0,i.size,fun a b=>if a*i.size+b<xs.length*i.size then f1 (a*i.size+b)else f2 (a*i.size+b-xs.length*i.size),rfl,fun _ _=> .inr rfl,za9 hlall,fun a b ha hb=>by
    simp only[List.length_append]at ha
    rw[zg9 hp.new,Nat.zero_add]
    by_cases hab:a*i.size+b<xs.length*i.size
    ·simp only[hab,if_true]
     rw[Array.append_assoc,Array.getElem?_append_left (by simpa using hab)]
     simp[hab]
    ·simp only[hab,if_false]
     have hlt:a*i.size+b<(xs.length+ys.length)*i.size:=by
      have:(a+1)*i.size≤(xs.length+ys.length)*i.size:=Nat.mul_le_mul_right _ ha
      rw[Nat.add_mul]at this;omega
     rw[Nat.add_mul]at hlt
     rw[Array.getElem?_append_left (by simp;omega),Array.getElem?_append_right (by simp;omega)]
     have:a*i.size+b-xs.length*i.size<ys.length*i.size:=by omega
     simp[this],fun a b ha hb=>by
    have hg:=zeF (za9 hlall) ha hb
    rw[hfl]at hg
    simp only[List.length_append]at ha
    have hlx:=zbN (za9 hl)
    by_cases hab:a*i.size+b<xs.length*i.size
    ·simp only[hab,if_true]
     have h3:=v1 _ hab
     rw[zbO (by omega)]at hg
     rw[hg]at h3
     simp only[zak]at h3
     exact h3.mono (o2.ext hok).fk (o2.ext hok).f
    ·simp only[hab,if_false]
     have hlt:a*i.size+b<(xs.length+ys.length)*i.size:=by
      have:(a+1)*i.size≤(xs.length+ys.length)*i.size:=Nat.mul_le_mul_right _ ha
      rw[Nat.add_mul]at this;omega
     rw[Nat.add_mul]at hlt
     have h3:=v2 (a*i.size+b-xs.length*i.size) (by omega)
     rw[zbP (by omega),hlx]at hg
     rw[hg]at h3
     simp only[zak]at h3
     exact h3.mono (o2.ext hok).fk (o2.ext hok).f⟩)
  simpa using this
theorem zje (hok:OkW G w L F U H){t u ty e e':TypeId}{te:TI}(ht:P.underlying t=some (.slice e))(hu:P.underlying u=some (.slice e'))(hte:zaq P e=some te)
  {xs ys:List FD}{vx vy:Value}(hx:zak w L F U (.full xs) vx)(h2:Src w L F U te.size vy ys.length (zag ys))(hl:zbi xs te.size)(hly:zbi ys te.size)
  (hf:fits (xs.length+ys.length) te.bytes){id:Id}{U':Id→Prop}(hid:¬U id)(hU:∀i,U i→U' i)(hid':U' id):
  ∃v w' L' F',(Builtin.append_ #[t,u] ty #[vx,vy]).run P w= .ok v w'∧OkW G w' L' F' U' (zaM H id (some tok))∧zak w' L' F' U' (.ow id te.size (xs++ys)) v∧zbL H w L F U (zaM H id (some tok)) w' L' F' U':=by
 simp only[zak]at hx
 obtain⟨a,rfl,hx⟩:=hx
 rcases Nat.eq_zero_or_pos ys.length with h0|hpos
 ·obtain rfl:=List.length_eq_zero_iff.1 h0
  obtain⟨i,z,d,g1,g2,g3,rfl⟩:=zaA hte
  obtain⟨ya,yc,rfl,_⟩:=h2
  obtain⟨k1,k2⟩:=zgS hok hid hU hid' false
  refine⟨.slice a xs.length xs.length,w,zcK L id ⟨0,0,true⟩,F,?_,k1,?_,k2⟩
  ·have:=za3 (P:=P) (w:=w) (ty:=ty) (w':=w) ht hu g1 (base:=a) (sLen:=xs.length) (sCap:=xs.length) (xb:=ya) (n:=0) (xc:=yc) (news:= #[]) zaR (by omega) (fun a _=>by simp[storeCells]) (fun _=>rfl)
   simpa using this
  ·simp only[zak,List.append_nil]
   exact⟨hid',hx,a,_,rfl,.inl rfl⟩
 ·exact zgj hok ht hu hte hx h2 hl hly (by omega) hf (fun _ _ h=>h) hid hU hid'
theorem zwo (hok:OkW G w L F U H){t:TypeId}{te:TI}(hte:zau P t=some te){k k':IntKind}{n:Int}(h0:0≤n)(hn:n.toNat≤zaZ)(hb:te.bytes*n≤2^48)
  {id:Id}{U':Id→Prop}(hid:¬U id)(hU:∀i,U i→U' i)(hid':U' id):
  ∃v w' L',(Instr.makeSlice t (.int k n) (.int k' n)).run P w= .ok v w'∧
   OkW G w' L' F U' (zaM H id (some ⟨(List.range (n.toNat*te.size)).map fun j=>te.zero.getD (j % te.size) .junk,false,false⟩))∧zak w' L' F U' (.arr id te.size 0 n.toNat) v∧
   zbL H w L F U (zaM H id (some ⟨(List.range (n.toNat*te.size)).map fun j=>te.zero.getD (j % te.size) .junk,false,false⟩)) w' L' F U':=by
 obtain⟨e,hu,he⟩:=za0 hte
 have hz:=zeN he
 obtain⟨inf,z,u,g1,g2,g3,rfl⟩:=zaA he
 dsimp only at*
 simp only[List.length_map,Array.length_toList]at hz
 have hw:IntKind.i64.wrap n=n:=ze8 ⟨by simp[IntKind.min,IntKind.signed,IntKind.bits];omega,by unfold zaZ at hn;simp[IntKind.max,IntKind.signed,IntKind.bits];omega⟩
 have hsz:∀m,((Array.range m).map fun j=>(if m=0 then #[]else z.cells)[j % (if m=0 then #[]else z.cells).size]!).size=m:=by simp
 have hp:=zbQ.alloc w (.cells ((Array.range (n.toNat*inf.size)).map fun j=>(if n.toNat*inf.size=0 then #[]else z.cells)[j % (if n.toNat*inf.size=0 then #[]else z.cells).size]!) e)
 obtain⟨o1,o2⟩:=zhC hok hp (cells:=(List.range (n.toNat*inf.size)).map fun j=>(z.cells.toList.map znc).getD (j % inf.size) .junk) hid hU hid' (by simp) (fun j hj=>by
  have hj':j<n.toNat*inf.size:=by simpa using hj
  have hne:¬n.toNat*inf.size=0:=by omega
  have hpos:0<inf.size:=by
   rcases Nat.eq_zero_or_pos inf.size with h|h
   ·rw[h]at hj';simp at hj'
   ·exact h
  have hm:j % inf.size<z.cells.size:=by rw[hz];exact Nat.mod_lt _ hpos
  refine⟨z.cells[j % inf.size],?_,?_⟩
  ·simp only[hne,if_false,hz]
   simp[hj',hm]
  ·simp only[List.getD_eq_getElem?_getD,List.getElem?_map,List.getElem?_range hj',Option.map_some,Option.getD_some]
   rw[List.getElem?_eq_getElem (by simpa using hm)]
   simpa using zok _) false
 refine⟨.slice (some ⟨w.heap.size,0,none⟩) n.toNat n.toNat,_,_,?_,o1,?_,o2⟩
 ·have hb':¬((inf.bytes:Int)*n>2^48):=by omega
  have hn0:¬n<0:=by omega
  simp only[Instr.makeSlice,Sem.run_bind,run_underlying hu,Result.andThen_ok,asInt,asIntOf,Sem.run_pure,typeInfo,run_program,g1,hw,hn0,hb',Bool.false_eq_true,decide_false,Bool.or_self,Bool.false_or,Int.lt_irrefl,if_false,gt_iff_lt,Sem.run_ite,run_askRoom,sizeOf,zeroValue,g2]
  by_cases h:n.toNat*inf.size=0
  ·simp[h,newRow]
  ·simp[h,newRow]
 ·simp only[zak]
  refine⟨hid',_,_,rfl,Nat.le_refl _,hn,.inr ⟨by simp[zcK],by simp[zcK],by simp[zcK],fun cs T fr hcs=>?_⟩⟩
  have hL:zcK L id ⟨w.heap.size,0,false⟩ id=⟨w.heap.size,0,false⟩:=by simp[zcK]
  rw[hL]at hcs ⊢
  rw[hp.new]at hcs
  simp only[Option.some.injEq,Obj.cells.injEq]at hcs
  obtain⟨rfl,_,_⟩:=hcs
  simp
theorem zrr (hok:OkW G w L F U H){t:TypeId}{d:D}{v:Value}(hd:zak w L F U d v)(hk:d≠ .junk)
  {id:Id}{U':Id→Prop}(hid:¬U id)(hU:∀i,U i→U' i)(hid':U' id):
  ∃a w' L',(newVar t v).run P w= .ok a w'∧OkW G w' L' F U' (zaM H id (some ⟨d.cs,true,false⟩))∧zak w' L' F U' (.ptr id 0) (.pointer (some a))∧
   zbL H w L F U (zaM H id (some ⟨d.cs,true,false⟩)) w' L' F U':=by
 have hp:=zbQ.alloc w (.cells v.cells t)
 have hcs:=(zap.iff _ _).1 (zak.cs hd hk)
 obtain⟨o1,o2⟩:=zhC hok hp (cells:=d.cs) hid hU hid' (by have:=hcs.1;simp at this;omega) (fun j hj=>by
  refine⟨v.cells.toList.getD j undef,?_,hcs.2 j hj⟩
  have:j<v.cells.toList.length:=by rw[hcs.1];exact hj
  rw[List.getD_eq_getElem?_getD,List.getElem?_eq_getElem this]
  simp at this ⊢) true
 refine⟨_,_,_,by simp[newVar,newRow];rfl,o1,?_,o2⟩
 simp only[zak]
 refine⟨hid',by simp[zcK],by simp[zcK]⟩
theorem zpn (hok:OkW G w L F U H){t:TypeId}{ti:TI}(hti:zaq P t=some ti)
  {id:Id}{U':Id→Prop}(hid:¬U id)(hU:∀i,U i→U' i)(hid':U' id)(old:Value):
  ∃v w' L',(Instr.alloc t true old).run P w= .ok v w'∧OkW G w' L' F U' (zaM H id (some ⟨ti.zero,true,false⟩))∧zak w' L' F U' (.ptr id 0) v∧
   zbL H w L F U (zaM H id (some ⟨ti.zero,true,false⟩)) w' L' F U':=by
 obtain⟨inf,z,u,g1,g2,g3,rfl⟩:=zaA hti
 have hp:=zbQ.alloc w (.cells z.cells t)
 have hcs:=(zap.iff _ _).1 (zol (w:=w) (L:=L) (F:=F) (U:=U) z)
 obtain⟨o1,o2⟩:=zhC hok hp (cells:=z.cells.toList.map znc) hid hU hid' (by simp) (fun j hj=>by
  refine⟨z.cells.toList.getD j undef,?_,hcs.2 j hj⟩
  have:j<z.cells.toList.length:=by rw[hcs.1];exact hj
  rw[List.getD_eq_getElem?_getD,List.getElem?_eq_getElem this]
  simp at this ⊢) true
 refine⟨_,_,_,by simp[Instr.alloc,zeroValue,typeInfo,g1,g2,newVar,newRow];rfl,o1,?_,o2⟩
 simp only[zak]
 refine⟨hid',by simp[zcK],by simp[zcK]⟩
end
end Go.Abs
namespace Go.Abs
open Go
structure St where
 fr:Nat→D
 H:zas
 n:Nat
def upd (f:Nat→D)(i:Nat)(x:D):Nat→D:=fun j=>if j=i then x else f j
def zz3 (k:IntKind)(n:Int):Bool:=decide (k.min≤n)&&decide (n≤k.max)
def zfn:Value→D
 | .bool b=> .fz (.b b)
 | .int k n=>if zz3 k n then .fz (.i k n)else .junk
 | .string s=>if s.data.toList.length≤1000000 then .fz (.s s.data.toList)else .junk
 | .slice none 0 0=> .full []
 | .nilFunc=> .fz .nilf
 |_=> .junk
def St.ev (G:Nat→List FD)(st:St):Operand→D
 | .tmp t=>st.fr t
 | .const v=>zfn v
 | .global g=>match G g with
  |[]=> .junk
  |x::xs=> .rp (x::xs)
 | .func f=> .fn f []
def St.put (st:St)(dst:Option Tmp)(d:D):St:=
 match dst with
 |some t=>{st with fr:=upd st.fr t d}
 |none=>st
def Ub (n:Nat):Id→Prop:=fun id=>id.2<n
structure Rel (G:Nat→List FD)(N:Nat)(st:St)(a:Act)(w:World)(L:Loc)(F:Nat→Nat→Prop):Prop where
 ok:OkW G w L F (Ub st.n) st.H
 size:a.tmps.size=N
 fr:∀t,zak w L F (Ub st.n) (st.fr t) (a.tmps.getD t undef)
 nd:a.defers=[]
def zgB (st:St)(w:World)(L:Loc)(F:Nat→Nat→Prop)(st':St)(w':World)(L':Loc)(F':Nat→Nat→Prop):Prop:=
 zbL st.H w L F (Ub st.n) st'.H w' L' F' (Ub st'.n)
def Sat (G:Nat→List FD)(N:Nat)(st0:St)(w0:World)(L0:Loc)(F0:Nat→Nat→Prop)(K:St→Prop)(a:Act)(w:World):Prop:=
 ∃st L F,K st∧Rel G N st a w L F∧zgB st0 w0 L0 F0 st w L F
def zam (P:Program)(f:FuncId):Prop:=∀args w,(callFunc f args).run P w= .ok (.enter f args) w
def zav (P:Program)(G:Nat→List FD)(f:FuncId)(args:List D)(H:zas)(n:Nat)(Q:D→zas→Nat→Prop):Prop:=
 zam P f∧∀(w:World) (L:Loc) (F:Nat→Nat→Prop) (vs:List Value),OkW G w L F (Ub n) H→zap w L F (Ub n) args vs→
  Calls P f vs.toArray w fun e w'=>∃v d H' n' L' F',e= .returned v∧Q d H' n'∧OkW G w' L' F' (Ub n') H'∧zak w' L' F' (Ub n') d v∧zbL H w L F (Ub n) H' w' L' F' (Ub n')
def zaS (N:Nat):Option Tmp→Bool
 |some t=>decide (t<N)
 |none=>true
def St.new (st:St)(id:Id)(o:O)(dst:Option Tmp)(d:D):St:=
 {St.put st dst d with H:=zaM st.H id (some o),n:=st.n+1}
def zcH (P:Program)(st:St)(tag:Nat)(dst:Option Tmp)(t u:TypeId)(x y:D)(K:St→Prop):Prop:=
 match zau P t,zaq P u with
 |some te,some ui=>
  match ui.isSlice,zbm st.H te y,x with
  |true,some (n,src,c),.full xs=>
   (c∧zbi xs te.size∧0<te.size∧(0<n∨xs=[])∧fits (xs.length+n) te.bytes∧
    K (st.new (tag,st.n) ⟨zag xs++src,false,(zag xs++src).isEmpty⟩ dst (.arr (tag,st.n) te.size 0 (xs.length+n))))∨
   (∃ys,y.toFD=some (.sl ys)∧zbi xs te.size∧zbi ys te.size∧fits (xs.length+ys.length) te.bytes∧K (st.put dst (.fz (.sl (xs++ys)))))∨
   (∃ys,n=ys.length∧src=zag ys∧c∧zbi xs te.size∧zbi ys te.size∧fits (xs.length+ys.length) te.bytes∧K (st.new (tag,st.n) tok dst (.ow (tag,st.n) te.size (xs++ys))))
  |true,some (n,src,c),.ow id es xs=>
   ∃ys o,n=ys.length∧src=zag ys∧c∧st.H id=some o∧es=te.size∧zbi xs te.size∧zbi ys te.size∧(zag ys).all zcJ=true∧fits (xs.length+ys.length) te.bytes∧
    K ({st with H:=zaM st.H id none}.new (tag,st.n) tok dst (.ow (tag,st.n) te.size (xs++ys)))
  |true,some (n,src,c),.arr id es s len=>
   match st.H id with
   |some o=>c∧es=te.size∧s+len*te.size≤o.cells.length∧src.all zcJ=true∧0<te.size∧fits (len+n) te.bytes∧
     K ({st with H:=zaM st.H id none}.new (tag,st.n) ⟨(o.cells.drop s).take (len*te.size)++src,false,o.virt&&((o.cells.drop s).take (len*te.size)++src).isEmpty⟩ dst (.arr (tag,st.n) te.size 0 (len+n)))
   |none=>False
  |_,_,_=>False
 |_,_=>False
def zd4:D→Option (Nat)
 | .fz (.sl xs)=>some xs.length
 | .full xs=>some xs.length
 | .ow _ _ xs=>some xs.length
 | .arr _ _ _ len=>some len
 |_=>none
def zcN (P:Program)(G:Nat→List FD)(N tag0:Nat)(o:Oper)(st:St)(K:St→Prop):Prop:=
 match za7 P o (st.ev G) st.H with
 |some (d,c)=>zaS N o.dst=true∧c∧K (st.put o.dst d)
 |none=>
  zaS N o.dst=true∧
  match o.op with
  | .alloc e=>
   match zaq P e with
   |some ti=>K (st.new (tag0+o.dst.getD 0,st.n) ⟨ti.zero,true,false⟩ o.dst (.ptr (tag0+o.dst.getD 0,st.n) 0))
   |none=>False
  | .box _ x=>(st.ev G x).known=true∧K (st.new (tag0+o.dst.getD 0,st.n) ⟨(st.ev G x).cs,true,false⟩ o.dst (.ptr (tag0+o.dst.getD 0,st.n) 0))
  | .makeSlice t l c=>
   match zau P t,st.ev G l,st.ev G c with
   |some te,.fz (.i _ n),.fz (.i _ m)=>m=n∧0≤n∧n.toNat≤zaZ∧te.bytes*n≤2^48∧
     K (st.new (tag0+o.dst.getD 0,st.n) ⟨(List.range (n.toNat*te.size)).map fun j=>te.zero.getD (j % te.size) .junk,false,false⟩ o.dst (.arr (tag0+o.dst.getD 0,st.n) te.size 0 n.toNat))
   |_,_,_=>False
  | .buildSlice t n ps=>
   (match zau P t,D.toFDs (ps.toList.map fun p=>st.ev G p.2)with
   |some te,some xs=>ps.toList.map (·.1)=List.range n∧zbi xs te.size∧n*te.size≤2^24∧n≤zaZ∧K (st.put o.dst (.full xs))
   |_,_=>False)∨
   (match zau P t with
   |some te=>ps.toList.map (·.1)=List.range n∧ps.toList.all (fun p=>zun te.size (st.ev G p.2))=true∧n≤2^24∧n*te.size≤2^24∧
     K (st.new (tag0+o.dst.getD 0,st.n) ⟨ps.toList.flatMap fun p=>(st.ev G p.2).cs,false,false⟩ o.dst (.arr (tag0+o.dst.getD 0,st.n) te.size 0 n))
   |none=>False)
  | .store t a x=>
   match zaq P t,st.ev G a with
   |some ti,.ptr id k=>
    match st.H id with
    |some ob=>o.dst=none∧ob.virt=false∧(st.ev G x).known=true∧(st.ev G x).cs.all zcJ=true∧(st.ev G x).cs.length=ti.size∧k+ti.size≤ob.cells.length∧
      K {st with H:=zaM st.H id (some {ob with cells:=zcT ob.cells k (st.ev G x).cs})}
    |none=>False
   |_,_=>False
  | .binOp op t x (.const (.slice none 0 0)) _=>
   match zau P t,zd4 (st.ev G x),op with
   |some _,some len,.eql=>∀b,(b=true→len=0)→K (st.put o.dst (.fz (.b b)))
   |some _,some len,.neq=>∀b,(b=false→len=0)→K (st.put o.dst (.fz (.b b)))
   |_,_,_=>False
  | .call c=>
   match c.callee with
   | .value f=>
    match st.ev G f with
    | .fn g caps=>zav P G g (c.args.toList.map (st.ev G)++caps) st.H st.n fun d H n=>K ({st with H:=H,n:=n}.put o.dst d)
    |_=>False
   | .builtin .append=>
    match c.args.toList,c.argTypes.toList with
    |[x,y],[t,u]=>zcH P st (tag0+o.dst.getD 0) o.dst t u (st.ev G x) (st.ev G y) K
    |_,_=>False
   |_=>False
  |_=>False
section
variable {P:Program} {G:Nat→List FD} {N:Nat} {st:St} {a:Act} {w:World} {L:Loc} {F:Nat→Nat→Prop}
theorem zqE (v:Value):zak w L F (Ub st.n) (zfn v) v:=by
 unfold zfn
 split
 ·exact zdv _
 ·split
  ·rename_i h
   simp only[zz3,Bool.and_eq_true,decide_eq_true_eq]at h
   exact zbh h
  ·simp[zak]
 ·split
  ·rename_i h;exact zpI rfl (by unfold zaZ;omega)
  ·simp[zak]
 ·simp only[zak];exact⟨none,rfl,.sl0 none 0⟩
 ·simp only[zak];exact .nilf
 ·simp[zak]
theorem Rel.ev (h:Rel G N st a w L F):∀x,zak w L F (Ub st.n) (st.ev G x) (a.eval x):=by
 intro x
 cases x with
 |tmp t=>exact h.fr t
 |const v=>exact zqE v
 |global g=>
  simp only[St.ev,Act.eval]
  split
  ·simp[zak]
  ·rename_i y ys hg
   simp only[zak]
   exact⟨g,0,rfl,fun j hj=>by rw[Nat.zero_add];have h3:=h.ok.glob.1 g j (by rw[hg];exact hj);rw[hg]at h3;exact h3⟩
 |func f=>
  simp only[St.ev,Act.eval,zak]
  exact⟨[],rfl,by simp[zap]⟩
theorem ztB {a:Act}{t t':Nat}{v:Value}(h:t<a.tmps.size):(a.put (some t) v).tmps.getD t' undef=if t'=t then v else a.tmps.getD t' undef:=by
 simp only[Act.put,Array.getD_eq_getD_getElem?]
 by_cases e:t'=t
 ·subst e;simp[h]
 ·rw[Array.getElem?_setIfInBounds_ne (fun x=>e x.symm)];simp[e]
theorem Rel.put {st':St}{w':World}{L':Loc}{F':Nat→Nat→Prop}(h:Rel G N st a w L F)(hok:OkW G w' L' F' (Ub st'.n) st'.H)(hs:zbL st.H w L F (Ub st.n) st'.H w' L' F' (Ub st'.n))
  {dst:Option Tmp}(hd:zaS N dst=true){d:D}{v:Value}(hv:zak w' L' F' (Ub st'.n) d v)(hfr:st'.fr=(st.put dst d).fr):
  Rel G N st' (a.put dst v) w' L' F':=by
 have e:=hs.ext h.ok
 refine⟨hok,?_,fun t=>?_,?_⟩
 ·cases dst with
  |none=>exact h.size
  |some t=>simp[Act.put,h.size]
 ·rw[hfr]
  cases dst with
  |none=>exact(h.fr t).ext e
  |some t'=>
   have ht:t'<a.tmps.size:=by rw[h.size];simpa[zaS]using hd
   rw[ztB ht]
   simp only[St.put,upd]
   split
   ·exact hv
   ·exact(h.fr t).ext e
 ·cases dst with
  |none=>exact h.nd
  |some t=>exact h.nd
theorem Rel.step {st':St}{w':World}{L':Loc}{F':Nat→Nat→Prop}(h:Rel G N st a w L F)(hok:OkW G w' L' F' (Ub st'.n) st'.H)(hs:zbL st.H w L F (Ub st.n) st'.H w' L' F' (Ub st'.n))
  (hfr:st'.fr=st.fr):Rel G N st' a w' L' F':=by
 have e:=hs.ext h.ok
 exact⟨hok,h.size,fun t=>by rw[hfr];exact(h.fr t).ext e,h.nd⟩
theorem zdM {n:Nat}:∀i,Ub n i→Ub (n+1) i:=fun _ h=>Nat.lt_succ_of_lt h
theorem zfb {n tag:Nat}:¬Ub n (tag,n):=Nat.lt_irrefl n
theorem zdp {n tag:Nat}:Ub (n+1) (tag,n):=Nat.lt_succ_self n
end
end Go.Abs
namespace Go.Abs
open Go
section
variable {P:Program} {G:Nat→List FD} {N:Nat} {st:St} {a:Act} {w:World} {L:Loc} {F:Nat→Nat→Prop} {K:St→Prop} {Q:Exit→Act→World→Prop}
theorem zdk {s:Sem Value}{v:Value}{w w':World}(hs:s.run P w= .ok v w'):(do pure (.value (←s)):Sem Next).run P w= .ok (.value v) w':=by simp[hs]
theorem zl7 {o:Oper}(h:Rel G N st a w L F)(hd:zaS N o.dst=true){d:D}(hK:K (st.put o.dst d))
  (hr:∃v w' F',(execOp a.eval o).run P w= .ok (.value v) w'∧OkW G w' L F' (Ub st.n) st.H∧zak w' L F' (Ub st.n) d v∧zbL st.H w L F (Ub st.n) st.H w' L F' (Ub st.n)):
  o.wp P a w (Sat G N st w L F K) Q:=by
 obtain⟨v,w',F',h1,h2,h3,h4⟩:=hr
 unfold Oper.wp
 rw[h1]
 have hH:(st.put o.dst d).H=st.H:=by cases o.dst<;>rfl
 have hn:(st.put o.dst d).n=st.n:=by cases o.dst<;>rfl
 refine⟨_,L,F',hK,h.put (st':=st.put o.dst d) (by rw[hH,hn];exact h2) (by rw[hH,hn];exact h4) hd (by rw[hn];exact h3) rfl,?_⟩
 unfold zgB
 rw[hH,hn]
 exact h4
theorem zgz {o:Oper}(h:Rel G N st a w L F)(hd:zaS N o.dst=true){H':zas}{d:D}{tag:Nat}{ob:O}(hK:K ({st with H:=H'}.new (tag,st.n) ob o.dst d))
  (hr:∃v w' L' F',(execOp a.eval o).run P w= .ok (.value v) w'∧OkW G w' L' F' (Ub (st.n+1)) (zaM H' (tag,st.n) (some ob))∧zak w' L' F' (Ub (st.n+1)) d v∧
   zbL st.H w L F (Ub st.n) (zaM H' (tag,st.n) (some ob)) w' L' F' (Ub (st.n+1))):
  o.wp P a w (Sat G N st w L F K) Q:=by
 obtain⟨v,w',L',F',h1,h2,h3,h4⟩:=hr
 unfold Oper.wp
 rw[h1]
 refine⟨_,L',F',hK,h.put (st':={st with H:=H'}.new (tag,st.n) ob o.dst d) h2 h4 hd h3 ?_,h4⟩
 cases o.dst<;>rfl
theorem zpH {c:Call}{f:Operand}{o:Oper}(ho:o.op= .call c)(hc:c.callee= .value f){g:FuncId}{caps:List Value}{w:World}(hf:a.eval f= .func (.func g) #[] caps.toArray)(hok:zam P g):
  (execOp a.eval o).run P w= .ok (.enter g ((c.args.toList.map a.eval)++caps).toArray) w:=by
 have: #[]++Array.map a.eval c.args++caps.toArray=(List.map a.eval c.args.toList++caps).toArray:=by
  cases c.args;simp
 simp only[execOp,ho,resolve,hc,Deferred.ofValue,hf,pure_bind,invoke]
 rw[hok,this]
theorem zc2 {c:Call}{o:Oper}(ho:o.op= .call c)(hc:c.callee= .builtin .append){x y:Operand}{t u:TypeId}(ha:c.args.toList=[x,y])(ht:c.argTypes.toList=[t,u]){w w':World}{v:Value}
  (h:(Builtin.append_ #[t,u] o.type #[a.eval x,a.eval y]).run P w= .ok v w'):(execOp a.eval o).run P w= .ok (.value v) w':=by
 have e1:c.args= #[x,y]:=by cases hh:c.args;rw[hh]at ha;simp at ha;rw[ha]
 have e2:c.argTypes= #[t,u]:=by cases hh:c.argTypes;rw[hh]at ht;simp at ht;rw[ht]
 simp only[execOp,ho,resolve,hc,pure_bind,invoke,builtin,e1,e2]
 simpa using zdk (P:=P) (by simpa using h)
theorem zlR {o:Oper}{c:Call}(h:Rel G N st a w L F)(hd:zaS N o.dst=true)(ho:o.op= .call c)(hc:c.callee= .builtin .append){x y:Operand}{t u:TypeId}(ha:c.args.toList=[x,y])
  (ht:c.argTypes.toList=[t,u]){tag:Nat}(hs:zcH P st tag o.dst t u (st.ev G x) (st.ev G y) K):o.wp P a w (Sat G N st w L F K) Q:=by
 unfold zcH at hs
 split at hs
 case h_2=>exact hs.elim
 rename_i te ui hte hui
 obtain⟨e,hu,he⟩:=za0 hte
 split at hs
 ·rename_i n src cc xs hsl hsrc hx
  obtain⟨e',he'⟩:=zb1 hsl
  have hu':=zcx hui he'
  have hxr:=h.ev x
  rw[hx]at hxr
  rcases hs with⟨h1,h2,h3,h4,h5,hK⟩|⟨ys,h1,h2,h3,h4,hK⟩|⟨ys,hn,hs,hcc,h2,h3,h4,hK⟩
  ·obtain⟨v,w',L',g1,g2,g3,g4⟩:=zmm (ty:=o.type) h.ok hu hu' he hxr (zn7 h.ok hsrc h1 (h.ev y)) h2 h3 h4 h5 (id:=(tag,st.n)) (U':=Ub (st.n+1)) zfb zdM zdp
   exact zgz h hd (H':=st.H) hK ⟨v,w',L',F,zc2 ho hc ha ht g1,g2,g3,g4⟩
  ·obtain⟨v,w',F',g1,g2,g3,g4⟩:=zoy (ty:=o.type) h.ok hu hu' he hxr (zak.toFD _ _ _ (h.ev y) h1) h2 h3 h4
   exact zl7 h hd hK ⟨v,w',F',zc2 ho hc ha ht g1,g2,g3,g4⟩
  ·obtain⟨v,w',L',F',g1,g2,g3,g4⟩:=zje (ty:=o.type) h.ok hu hu' he hxr (hn▸hs▸zn7 h.ok hsrc hcc (h.ev y)) h2 h3 h4 (id:=(tag,st.n)) (U':=Ub (st.n+1)) zfb zdM zdp
   exact zgz h hd (H':=st.H) hK ⟨v,w',L',F',zc2 ho hc ha ht g1,g2,g3,g4⟩
 ·rename_i n src cc id es xs hsl hsrc hx
  obtain⟨e',he'⟩:=zb1 hsl
  have hu':=zcx hui he'
  have hxr:=h.ev x
  rw[hx]at hxr
  obtain⟨ys,ob,hn,hs,hcc,hob,rfl,h2,h3,h4,h5,hK⟩:=hs
  obtain⟨v,w',L',F',g1,g2,g3,g4⟩:=zp9 (ty:=o.type) h.ok hu hu' he hxr hob (hn▸hs▸zn7 h.ok hsrc hcc (h.ev y)) h2 h3 h4 h5 (id:=(tag,st.n)) (U':=Ub (st.n+1)) zfb zdM zdp
  exact zgz h hd (H':=zaM st.H id none) hK ⟨v,w',L',F',zc2 ho hc ha ht g1,g2,g3,g4⟩
 ·rename_i n src cc id es s len hsl hsrc hx
  obtain⟨e',he'⟩:=zb1 hsl
  have hu':=zcx hui he'
  have hxr:=h.ev x
  rw[hx]at hxr
  split at hs
  case h_2=>exact hs.elim
  rename_i ob hob
  obtain⟨h1,rfl,h2,h3,h4,h5,hK⟩:=hs
  obtain⟨v,w',L',g1,g2,g3,g4⟩:=zox (ty:=o.type) h.ok hu hu' he hxr hob h2 (zn7 h.ok hsrc h1 (h.ev y)) h3 h4 h5 (id:=(tag,st.n)) (U':=Ub (st.n+1)) zfb zdM zdp
  exact zgz h hd (H':=zaM st.H id none) hK ⟨v,w',L',F,zc2 ho hc ha ht g1,g2,g3,g4⟩
 ·exact hs.elim
theorem zmw {t e:TypeId}(hu:P.underlying t=some (.slice e))(d:Nat)(a:Option Addr)(n c:Nat):(Op.equalIn (d+1) t (.slice a n c) (.slice none 0 0)).run P w= .ok a.isNone w:=by
 cases a<;>simp[Op.equalIn,run_underlying hu]
theorem zrt {t:TypeId}{te:TI}(hte:zau P t=some te){d:D}{v:Value}{len:Nat}(hl:zd4 d=some len)(hv:zak w L F (Ub st.n) d v)(X Y:Operand):
  ∃b:Bool,(b=true→len=0)∧(do eqGuard .eql t X Y v (.slice none 0 0);binOp .eql t v (.slice none 0 0):Sem Value).run P w= .ok (.bool b) w∧
   (do eqGuard .neq t X Y v (.slice none 0 0);binOp .neq t v (.slice none 0 0):Sem Value).run P w= .ok (.bool (!b)) w:=by
 obtain⟨e,hu,_⟩:=za0 hte
 have key:∀(a:Option Addr) (n cap:Nat),v= .slice a n cap→(a=none→n=0)→n=len→∃b:Bool,(b=true→len=0)∧(do eqGuard .eql t X Y v (.slice none 0 0);binOp .eql t v (.slice none 0 0):Sem Value).run P w= .ok (.bool b) w∧
   (do eqGuard .neq t X Y v (.slice none 0 0);binOp .neq t v (.slice none 0 0):Sem Value).run P w= .ok (.bool (!b)) w:=by
  rintro a n cap rfl h1 rfl
  have hq:(Op.equal t (.slice a n cap) (.slice none 0 0)).run P w= .ok a.isNone w:=zmw hu 9999 a n cap
  refine⟨a.isNone,fun hb=>h1 (by cases a<;>simp_all),?_,?_⟩
  ·rw[eqGuard_at_slice];simp only[pure_bind,binOp,Sem.run_bind,hq,Result.andThen_ok,Sem.run_pure]
  ·rw[eqGuard_at_slice];simp only[pure_bind,binOp,Sem.run_bind,hq,Result.andThen_ok,Sem.run_pure]
 unfold zd4 at hl
 split at hl<;>simp only[Option.some.injEq,reduceCtorEq]at hl<;>subst hl
 ·simp only[zak]at hv
  obtain⟨a,cap,rfl,h1,h2,h3⟩:=hv.sl_inv
  refine key a _ cap rfl (fun ha=>?_) rfl
  rcases Nat.eq_zero_or_pos (List.length ‹_›)with h|h
  ·exact h
  ·obtain⟨_,_,_,_,h4,_⟩:=h3 h
   rw[ha]at h4;cases h4
 ·simp only[zak]at hv
  obtain⟨a,rfl,hv⟩:=hv
  obtain⟨a',cap,he,h1,h2,h3⟩:=hv.sl_inv
  injection he with e1 e2 e3
  refine key a _ _ rfl (fun ha=>?_) rfl
  rcases Nat.eq_zero_or_pos (List.length ‹_›)with h|h
  ·exact h
  ·obtain⟨_,_,_,_,h4,_⟩:=h3 h
   rw[←e1,ha]at h4;cases h4
 ·simp only[zak]at hv
  obtain⟨_,hv,a,cap0,rfl,_⟩:=hv
  obtain⟨a',cap,he,h1,h2,h3⟩:=hv.sl_inv
  injection he with e1 e2 e3
  refine key a _ _ rfl (fun ha=>?_) rfl
  rcases Nat.eq_zero_or_pos (List.length ‹_›)with h|h
  ·exact h
  ·obtain⟨_,_,_,_,h4,_⟩:=h3 h
   rw[←e1,ha]at h4;cases h4
 ·simp only[zak]at hv
  obtain⟨_,a,cap,rfl,h1,h2,h3⟩:=hv
  refine key a _ cap rfl (fun ha=>?_) rfl
  rcases h3 with h3|⟨h3,_⟩
  ·omega
  ·rw[ha]at h3;cases h3
theorem zob {o:Oper}{tag0:Nat}(h:Rel G N st a w L F)(hs:zcN P G N tag0 o st K):o.wp P a w (Sat G N st w L F K) Q:=by
 unfold zcN at hs
 split at hs
 ·rename_i d c hev
  obtain⟨hd,hc,hK⟩:=hs
  obtain⟨v,h1,h2⟩:=ztw hev hc h.ok h.ev
  exact zl7 h hd hK ⟨v,w,F,h1,h.ok,h2,zbL.refl _ _ _ _ _⟩
 ·obtain⟨hd,hs⟩:=hs
  split at hs
  ·
   rename_i e heq
   split at hs
   case h_2=>exact hs.elim
   rename_i ti hti
   obtain⟨v,w',L',g1,g2,g3,g4⟩:=zpn h.ok hti (id:=(tag0+o.dst.getD 0,st.n)) (U':=Ub (st.n+1)) zfb zdM zdp (.tuple #[])
   exact zgz h hd (H':=st.H) hs ⟨v,w',L',F,by simp only[execOp,heq];exact zdk g1,g2,g3,g4⟩
  ·
   rename_i e x heq
   obtain⟨hk,hK⟩:=hs
   obtain⟨p,w',L',g1,g2,g3,g4⟩:=zrr (P:=P) h.ok (t:=e) (h.ev x) (zgO hk) (id:=(tag0+o.dst.getD 0,st.n)) (U':=Ub (st.n+1)) zfb zdM zdp
   refine zgz h hd (H':=st.H) hK ⟨_,w',L',F,?_,g2,g3,g4⟩
   simp only[execOp,heq]
   exact zdk (by simp[Instr.box,g1])
  ·
   rename_i t l c heq
   split at hs
   case h_2=>exact hs.elim
   rename_i te k n k' m hte hl hc
   obtain⟨rfl,h0,h1,h2,hK⟩:=hs
   have r1:=h.ev l
   have r2:=h.ev c
   rw[hl]at r1
   rw[hc]at r2
   obtain⟨v,w',L',g1,g2,g3,g4⟩:=zwo (P:=P) (k:=k) (k':=k') h.ok hte h0 h1 h2 (id:=(tag0+o.dst.getD 0,st.n)) (U':=Ub (st.n+1)) zfb zdM zdp
   refine zgz h hd (H':=st.H) hK ⟨_,w',L',F,?_,g2,g3,g4⟩
   simp only[execOp,heq,(zkh r1).1,(zkh r2).1]
   exact zdk g1
  ·
   rename_i t n ps heq
   rcases hs with hs|hs
   ·split at hs
    case h_2=>exact hs.elim
    rename_i te xs hte hxs
    obtain⟨h1,h2,h3,h4,hK⟩:=hs
    obtain⟨v,w',F',g1,g2,g3,g4⟩:=zji h.ok hte h1 hxs h2 h3 h4 h.ev
    exact zl7 h hd hK ⟨v,w',F',by simp only[execOp,heq];exact zdk g1,g2,g3,g4⟩
   ·split at hs
    case h_2=>exact hs.elim
    rename_i te hte
    obtain⟨h1,h2,h3,h4,hK⟩:=hs
    obtain⟨v,w',L',g1,g2,g3,g4⟩:=zmp h.ok hte h1 h2 h3 h4 h.ev (id:=(tag0+o.dst.getD 0,st.n)) (U':=Ub (st.n+1)) zfb zdM zdp
    exact zgz h hd (H':=st.H) hK ⟨v,w',L',F,by simp only[execOp,heq];exact zdk g1,g2,g3,g4⟩
  ·
   rename_i t p x heq
   split at hs
   case h_2=>exact hs.elim
   rename_i ti id k hti hp
   split at hs
   case h_2=>exact hs.elim
   rename_i ob hob
   obtain⟨hdst,h1,h2,h3,h4,h5,hK⟩:=hs
   have rp:=h.ev p
   rw[hp]at rp
   simp only[zak]at rp
   obtain⟨_,_,rp⟩:=rp
   obtain⟨w',g1,g2,g3⟩:=zse (P:=P) h.ok hob h1 hti (h.ev x) h2 h3 h4 h5
   unfold Oper.wp
   have:(execOp a.eval o).run P w= .ok .skip w':=by
    simp only[execOp,heq,rp]
    simp[g1]
   rw[this,Oper.upon_skip,hdst]
   exact⟨_,L,F,hK,h.step g2 g3 rfl,g3⟩
  ·
   rename_i op t x _ heq
   split at hs
   case h_3=>exact hs.elim
   ·rename_i te len hte hl
    obtain⟨b,hb,g1,g2⟩:=zrt (P:=P) hte hl (h.ev x) x (.const (.slice none 0 0))
    exact zl7 h hd (hs b hb) ⟨_,w,F,by simp only[execOp,heq];exact zdk g1,h.ok,zdv _,zbL.refl _ _ _ _ _⟩
   ·rename_i te len hte hl
    obtain⟨b,hb,g1,g2⟩:=zrt (P:=P) hte hl (h.ev x) x (.const (.slice none 0 0))
    exact zl7 h hd (hs (!b) (fun hh=>hb (by simpa using hh))) ⟨_,w,F,by simp only[execOp,heq];exact zdk g2,h.ok,zdv _,zbL.refl _ _ _ _ _⟩
  ·
   rename_i c heq
   split at hs
   ·rename_i f hcal
    split at hs
    case h_2=>exact hs.elim
    rename_i g caps hf
    obtain⟨hok,hcall⟩:=hs
    have rf:=h.ev f
    rw[hf]at rf
    simp only[zak]at rf
    obtain⟨cv,rf,hcaps⟩:=rf
    unfold Oper.wp
    rw[zpH heq hcal rf hok,Oper.upon_enter]
    have hargs:zap w L F (Ub st.n) (c.args.toList.map (st.ev G)++caps) (c.args.toList.map a.eval++cv):=by
     have h1:=(zap.iff _ _).1 (zap.map h.ev c.args.toList)
     have h2:=(zap.iff _ _).1 hcaps
     rw[zap.iff]
     refine⟨by simp[h2.1],fun j hj=>?_⟩
     by_cases hj1:j<(c.args.toList.map (st.ev G)).length
     ·rw[zbO hj1]
      have:=h1.2 j hj1
      rwa [List.getD_eq_getElem?_getD (l:=_++_),List.getElem?_append_left (by simpa using hj1),←List.getD_eq_getElem?_getD]
     ·have hj2:=Nat.le_of_not_lt hj1
      rw[zbP hj2]
      have:=h2.2 (j-(c.args.toList.map (st.ev G)).length) (by simp at hj hj2 ⊢;omega)
      rwa [List.getD_eq_getElem?_getD (l:=_++_),List.getElem?_append_right (by simpa using hj2),←List.getD_eq_getElem?_getD,show(c.args.toList.map a.eval).length=(c.args.toList.map (st.ev G)).length by simp]
    refine(hcall w L F _ h.ok hargs).mono fun e w' he=>?_
    obtain⟨v,d,H',n',L',F',rfl,hK,g1,g2,g3⟩:=he
    have hH:({st with H:=H',n:=n'}:St).put o.dst d={st with fr:=(({st with H:=H',n:=n'}:St).put o.dst d).fr,H:=H',n:=n'}:=by cases o.dst<;>rfl
    refine⟨_,L',F',hK,h.put (st':=({st with H:=H',n:=n'}:St).put o.dst d) (by rw[hH];exact g1) (by rw[hH];exact g3) hd (by rw[hH];exact g2) (by cases o.dst<;>rfl),?_⟩
    unfold zgB
    rw[hH];exact g3
   ·rename_i hcal
    split at hs
    case h_2=>exact hs.elim
    rename_i x y t u ha ht
    exact zlR h hd heq hcal ha ht hs
   ·exact hs.elim
  ·exact hs.elim
end
end Go.Abs
