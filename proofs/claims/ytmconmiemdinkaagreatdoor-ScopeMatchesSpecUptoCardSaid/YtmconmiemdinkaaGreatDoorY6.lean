/- several texts of this proof in one; no conditions -/
import Derived.Test.YtmconmiemdinkaaGreatDoorA3
set_option linter.unusedSimpArgs false
namespace Go.Abs
open Go
section
variable {P:Program} {G:Nat→List FD} {T:Tbl}
def sp0 {ρ:Type}[Enc ρ](f:ρ):List FD→Option (D×Prop)
 |[]=>some (.fz (enc f),True)
 |_=>none
@[go_sem] theorem zKl {ρ:Type}[Enc ρ]{f:ρ}:sp0 f []=some (.fz (enc f),True):=rfl
theorem zC0 {ρ:Type}[Enc ρ]{f:FuncId}{g:ρ}(hT:zan P G T)
  (h:zaH P G f [] (hpL []) 0 (fun d _ _=>D.val d=some (.fz (enc g)))):zan P G (T.add f (sp0 g)):=by
 refine zeG hT fun xs r c hx _=>?_
 unfold sp0 at hx
 split at hx
 ·simp only[Option.some.injEq,Prod.mk.injEq]at hx
  obtain⟨rfl,rfl⟩:=hx
  rw[zfD]
  exact h
 ·cases hx
def sp4 {α β γ δ ρ:Type}[Enc α][Enc β][Enc γ][Enc δ][Enc ρ](f:α→β→γ→δ→ρ)(pre:α→β→γ→δ→Prop):List FD→Option (D×Prop)
 |[x,y,z,w]=>some (.fz (enc (f (dec x) (dec y) (dec z) (dec w))),x=enc (dec (α:=α) x)∧y=enc (dec (α:=β) y)∧z=enc (dec (α:=γ) z)∧w=enc (dec (α:=δ) w)∧pre (dec x) (dec y) (dec z) (dec w))
 |_=>none
@[go_sem] theorem zKm {α β γ δ ρ:Type}[Enc α][Enc β][Enc γ][Enc δ][Enc ρ]{f:α→β→γ→δ→ρ}{pre:α→β→γ→δ→Prop}{x y z w:FD}:sp4 f pre [x,y,z,w]=some (.fz (enc (f (dec x) (dec y) (dec z) (dec w))),x=enc (dec (α:=α) x)∧y=enc (dec (α:=β) y)∧z=enc (dec (α:=γ) z)∧w=enc (dec (α:=δ) w)∧pre (dec x) (dec y) (dec z) (dec w)):=rfl
def zKU {α β ρ σ:Type}[Enc α][Enc β][Enc ρ][Enc σ](f:α→β→ρ×σ)(pre:α→β→Prop):List FD→Option (D×Prop)
 |[x,y]=>some (.tup [.fz (enc (f (dec x) (dec y)).1),.fz (enc (f (dec x) (dec y)).2)],x=enc (dec (α:=α) x)∧y=enc (dec (α:=β) y)∧pre (dec x) (dec y))
 |_=>none
@[go_sem] theorem zHV {α β ρ σ:Type}[Enc α][Enc β][Enc ρ][Enc σ]{f:α→β→ρ×σ}{pre:α→β→Prop}{x y:FD}:zKU f pre [x,y]=some (.tup [.fz (enc (f (dec x) (dec y)).1),.fz (enc (f (dec x) (dec y)).2)],x=enc (dec (α:=α) x)∧y=enc (dec (α:=β) y)∧pre (dec x) (dec y)):=rfl
def zKV {α β γ ρ σ:Type}[Enc α][Enc β][Enc γ][Enc ρ][Enc σ](f:α→β→γ→ρ×σ)(pre:α→β→γ→Prop):List FD→Option (D×Prop)
 |[x,y,z]=>some (.tup [.fz (enc (f (dec x) (dec y) (dec z)).1),.fz (enc (f (dec x) (dec y) (dec z)).2)],x=enc (dec (α:=α) x)∧y=enc (dec (α:=β) y)∧z=enc (dec (α:=γ) z)∧pre (dec x) (dec y) (dec z))
 |_=>none
@[go_sem] theorem zHW {α β γ ρ σ:Type}[Enc α][Enc β][Enc γ][Enc ρ][Enc σ]{f:α→β→γ→ρ×σ}{pre:α→β→γ→Prop}{x y z:FD}:zKV f pre [x,y,z]=some (.tup [.fz (enc (f (dec x) (dec y) (dec z)).1),.fz (enc (f (dec x) (dec y) (dec z)).2)],x=enc (dec (α:=α) x)∧y=enc (dec (α:=β) y)∧z=enc (dec (α:=γ) z)∧pre (dec x) (dec y) (dec z)):=rfl
end
def orI (n m:Int):Int:=IntKind.wrap .i64 (BitVec.ofInt 64 n|||BitVec.ofInt 64 m).toNat
def zG0 (n m:Int):Int:=IntKind.wrap .i64 (BitVec.ofInt 64 n&&& BitVec.ofInt 64 m).toNat
@[go_sem] theorem zHE {n m:Int}:zdD .or .i64 .i64 n m=some (.fz (.i .i64 (orI n m)),True):=by
 simp only[zdD,orI,eq_self];rfl
@[go_sem] theorem zFO {n m:Int}:zdD .and .i64 .i64 n m=some (.fz (.i .i64 (zG0 n m)),True):=by
 simp only[zdD,zG0,eq_self];rfl
class Kc (α:Type)[Enc α](k:outParam Nat):Prop where
 len:∀a:α,(enc a).cells.length=k
theorem zdS {α:Type}[Enc α]{k:Nat}[Kc α k](l:List α):zbC (l.map enc) k:=zcf (f:=enc) (k:=k) Kc.len l
@[go_sem] theorem zKC {n n':Nat}{pre:Id→Id}{vn:Id→Bool}{z:Id→Option (List FD)}{H:zax}{ds ds':List D}:Dr n n' pre vn z H (.agg ds) (.agg ds')=Drs n n' pre vn z H ds ds':=by
 simp only[Dr,D.agg.injEq,eq_iff_iff]
 exact⟨fun⟨_,h1,h2⟩=>h1▸h2,fun h=>⟨_,rfl,h⟩⟩
end Go.Abs
namespace Go.Abs
open Go
mutual
inductive Tr where
 |leaf
 |node (l:Trs)
inductive Trs where
 |nil
 |cons (i:Nat) (t:Tr) (l:Trs)
end
mutual
def zMd (ops:Array Oper):Tr→Array Bool→Bool
 | .leaf,listed=>(Region.ready .any ops listed).isEmpty
 | .node l,listed=> !(Region.ready .any ops listed).isEmpty&&zC9 ops l listed (Region.ready .any ops listed)
def zC9 (ops:Array Oper):Trs→Array Bool→List Nat→Bool
 | .nil,_,r=>r.isEmpty
 | .cons i t l,listed,r=>(match r with
   |j::r'=>(i==j)&&zMd ops t (listed.setIfInBounds i true)&&zC9 ops l listed r'
   |[]=>false)
end
mutual
def zC7:Tr→Nat
 | .leaf=>0
 | .node l=>zuG l+1
def zuG:Trs→Nat
 | .nil=>0
 | .cons _ t l=>max (zC7 t) (zuG l)
end
section
variable (P:Program) (G:Nat→List FD) (T:Tbl) (N tag0:Nat) (am:Nat→Bool) (ops:Array Oper)
def zhx (o:Option Oper)(k:St→Prop)(st:St):Prop:=Bi o fun o=>Bi (znY ops st.fr o.guard) fun b=>zd0 b (XO P G T N tag0 am st k o.dst o.op) (Chk (zbl N o.dst) (k (st.put o.dst (.tup []))))
mutual
def zEE:Tr→(St→Prop)→St→Prop
 | .leaf,K,st=>K st
 | .node l,K,st=>zux l K st
def zux:Trs→(St→Prop)→St→Prop
 | .nil,_,_=>True
 | .cons i t l,K,st=>zhx P G T N tag0 am ops ops[i]? (zEE t K) st∧zux l K st
end
end
section
variable {P:Program} {G:Nat→List FD} {T:Tbl} {N tag0:Nat} {am:Nat→Bool} {ops:Array Oper} {K:St→Prop}
end
def zfa (P:Program)(G:Nat→List FD)(T:Tbl)(N tag0:Nat)(am:Nat→Bool)(ops:Array Oper)(o:Option Oper)(st:St)[k:Kn St]:Prop:=zhx P G T N tag0 am ops o k.run st
def zrQ (P:Program)(G:Nat→List FD)(T:Tbl)(N tag0:Nat)(am:Nat→Bool)(ops:Array Oper)(t:Tr)(st:St)[k:Kn St]:Prop:=zEE P G T N tag0 am ops t k.run st
def zhB (P:Program)(G:Nat→List FD)(T:Tbl)(N tag0:Nat)(am:Nat→Bool)(ops:Array Oper)(t:Trs)(st:St)[k:Kn St]:Prop:=zux P G T N tag0 am ops t k.run st
section
variable {P:Program} {G:Nat→List FD} {T:Tbl} {N tag0:Nat} {am:Nat→Bool} {ops:Array Oper} {st:St} {k:St→Prop} {t:Tr} {l:Trs} {i:Nat} {o:Oper}
@[go_sem] theorem zCo:@zrQ P G T N tag0 am ops .leaf st ⟨k⟩=k st:=by unfold zrQ;rw[zEE];rfl
@[go_sem] theorem zCp:@zrQ P G T N tag0 am ops (.node l) st ⟨k⟩=@zhB P G T N tag0 am ops l st ⟨k⟩:=by unfold zrQ zhB;rw[zEE]
@[go_sem] theorem zCq:@zhB P G T N tag0 am ops .nil st ⟨k⟩=True:=by unfold zhB;rw[zux]
@[go_sem] theorem zAG:@zhB P G T N tag0 am ops (.cons i t l) st ⟨k⟩=(@zfa P G T N tag0 am ops ops[i]? st ⟨fun st=>@zrQ P G T N tag0 am ops t st ⟨k⟩⟩∧@zhB P G T N tag0 am ops l st ⟨k⟩):=by
 unfold zhB zfa;rw[zux];rfl
@[go_sem] theorem zGp:@zfa P G T N tag0 am ops (some o) st ⟨k⟩=@BiK _ (znY ops st.fr o.guard) ⟨fun b=>@zaW b ⟨@XOK P G T N tag0 am st o.dst o.op ⟨k⟩⟩ ⟨@zh3 (zbl N o.dst) ⟨k (st.put o.dst (.tup []))⟩⟩⟩:=by
 unfold zfa zhx BiK zaW XOK zh3;rfl
end
attribute [irreducible] zfa zrQ zhB
end Go.Abs
namespace Go.Abs
open Go Go.Deep
def CR (w:World)(cs:List Value)(ys:List FD):Prop:=cs.length=ys.length∧∀j,j<cs.length→za8 w (zlU w) (cs.getD j undef) (ys.getD j .nilf)
theorem CR.nil {w:World}:CR w [] []:=⟨rfl,fun j hj=>by simp at hj⟩
theorem CR.app {w:World}{cs ds:List Value}{xs ys:List FD}(h1:CR w cs xs)(h2:CR w ds ys):CR w (cs++ds) (xs++ys):=by
 refine⟨by rw[List.length_append,List.length_append,h1.1,h2.1],fun j hj=>?_⟩
 rw[List.length_append]at hj
 by_cases hj1:j<cs.length
 ·rw[List.getD_eq_getElem?_getD,List.getElem?_append_left hj1,List.getD_eq_getElem?_getD,List.getElem?_append_left (by rw[←h1.1];exact hj1)]
  have:=h1.2 j hj1
  rwa [List.getD_eq_getElem?_getD,List.getD_eq_getElem?_getD]at this
 ·rw[List.getD_eq_getElem?_getD,List.getElem?_append_right (by omega),List.getD_eq_getElem?_getD,List.getElem?_append_right (by rw[←h1.1];omega),←h1.1]
  have:=h2.2 (j-cs.length) (by omega)
  rwa [List.getD_eq_getElem?_getD,List.getD_eq_getElem?_getD]at this
theorem CR.one {w:World}{v:Value}{y:FD}(h:za8 w (zlU w) v y):CR w [v] [y]:=⟨rfl,fun j hj=>by
 obtain rfl:j=0:=by simp at hj;omega
 exact h⟩
theorem CR.agg {w:World}{cs:Array Value}{ys:List FD}(h:CR w cs.toList ys):za8 w (zlU w) (.agg cs) (.agg ys):=by
 have:=za8.agg (w:=w) (F:=zlU w) cs.toList ys h.1 (fun j hj=>h.2 j (by rw[h.1];exact hj))
 simpa using this
theorem CR.part {w:World}{cs:List Value}{o s:Nat}{xs ys:List FD}(h1:CR w ((cs.drop o).take s) xs)(h2:CR w (cs.drop (o+s)) ys):CR w (cs.drop o) (xs++ys):=by
 have:=h1.app h2
 rwa [←List.drop_drop,List.take_append_drop]at this
theorem CR.fin {w:World}{cs:List Value}{o:Nat}(h:cs.length=o):CR w (cs.drop o) []:=by
 rw[List.drop_of_length_le (by omega)];exact .nil
def RdN (n:Nat)(blk:(H:Type)→DataW H→Nat)(P:Program)(t:TypeId)(α:Type)[Enc α]:Prop:=
 ∀{H:Type} {en:TypeId×Value→H} {w:World} {base:Nat} {spare:Nat→Bool} {held:Bool} {fuel:Nat} {cs:List Value} {x:DataW H×List MemPlace},
  DataW.trod en P w base spare held fuel t cs=some x→SizeOf.sizeOf x.1<n→blk H x.1≤1048576→∃a:α,CR w cs (enc a).cells
section
variable {n:Nat} {blk:(H:Type)→DataW H→Nat} {P:Program} {t e:TypeId}
theorem RdN.of {α:Type}[Enc α](h:Rd blk P t α):RdN n blk P t α:=fun h1 _ h2=>h h1 h2
theorem RdN.to {α:Type}[Enc α](h:∀n,RdN n blk P t α):Rd blk P t α:=fun h1 h2=>h _ h1 (Nat.lt_succ_self _) h2
theorem zgu (hB:zlW blk){α:Type}[Enc α](ht:P.underlying t=some (.slice e))(hes:0<P.cellsOf e)(hr:RdN n blk P e α):RdN n blk P t (List α):=by
 intro H en w base spare held fuel cs x h hsz hbk
 rcases open_slice ht h with⟨rfl,_⟩|⟨a,len,cap,m,k,D,Pl,rfl,hb,hl,hm,hme,rfl,hel⟩
 ·exact⟨[],.one (.sl0 none 0)⟩
 ·have hlm:len≤m:=by rw[hme];split<;>omega
  have each:∀i,i<len→∃b:α,(enc b).cells.length=P.cellsOf e∧∀j,j<P.cellsOf e→∃v,w.cell? ((a.add (i*P.cellsOf e)).add j)=some v∧za8 w (zlU w) v ((enc b).cells.getD j .nilf):=fun i hi=>by
   obtain⟨cs',h1,h2⟩:=hel i (by omega)
   obtain⟨g1,g2⟩:=cells?_get h1
   have hmem:D i∈(List.range len).map D:=List.mem_map.2 ⟨i,List.mem_range.2 hi,rfl⟩
   have hlt:SizeOf.sizeOf (D i)<n:=by
    have q1:=List.sizeOf_lt_of_mem hmem
    simp only[DataW.slice.sizeOf_spec]at hsz
    omega
   obtain⟨b,b1,b2⟩:=hr h2 hlt (Nat.le_trans (hB.el _ _ _ _ hmem) hbk)
   exact⟨b,by rw[←b1,g1],fun j hj=>⟨_,g2 j hj,b2 j (by rw[g1];exact hj)⟩⟩
  obtain⟨l,l1,l2⟩:=ziJ len each
  refine⟨l,.one ?_⟩
  have hmax:len≤za6:=by
   have:=Nat.le_trans (hB.sl _ _ _) hbk
   simp only[List.length_map,List.length_range]at this
   unfold za6;omega
  have hxl:(l.map enc).length=len:=by simp[l1]
  show za8 w (zlU w) (.slice (some a) len cap) (.sl (l.map enc))
  rcases Nat.eq_zero_or_pos len with h0|h0
  ·have:l=[]:=List.eq_nil_of_length_eq_zero (by omega)
   subst this
   rw[h0]
   exact .sl0 _ _
  ·have gd:∀i (hi:i<len),(l.map enc).getD i .nilf=enc (l[i]'(by omega)):=fun i hi=>by
    simp[List.getD_eq_getElem?_getD,show i<l.length by omega]
   obtain⟨v0,hv0,_⟩:=(l2 0 (by omega)).2 0 hes
   rw[Nat.zero_mul]at hv0
   have ha0:(a.add 0).add 0=a:=by simp[Addr.add]
   rw[ha0]at hv0
   obtain⟨hsp,cs,T,fr,hcs,_⟩:=cell?_some hv0
   have hlt:a.block<w.heap.size:=by
    rcases Nat.lt_or_ge a.block w.heap.size with h|h
    ·exact h
    ·rw[Array.getElem?_eq_none h]at hcs;cases hcs
   have ea:a=⟨a.block,a.off,none⟩:=by cases a;simp at hsp;subst hsp;rfl
   have key:∀i j,i<len→j<P.cellsOf e→∃v,cs[a.off+i*P.cellsOf e+j]?=some v∧za8 w (zlU w) v (((l.map enc).getD i .nilf).cells.getD j .nilf):=fun i j hi hj=>by
    obtain⟨v,h1,h2⟩:=(l2 i (by omega)).2 j hj
    rw[ea,zbQ,zbQ,zgP hcs]at h1
    exact⟨v,h1,by rw[gd i hi];exact h2⟩
   rw[ea,←hxl]
   refine za8.sl a.block a.off cap (P.cellsOf e) _ (fun i j=>cs.getD (a.off+i*P.cellsOf e+j) undef) (by omega) (by omega) (fun _ _=>hlt) (fun i hi=>?_) (fun i j hi hj=>?_) (fun i j hi hj=>?_)
   ·rw[gd i (by omega)];exact(l2 i (by omega)).1
   ·obtain⟨v,h1,_⟩:=key i j (by omega) hj
    rw[zft hcs]
    simp[Array.getD_eq_getD_getElem?,h1]
   ·obtain⟨v,h1,h2⟩:=key i j (by omega) hj
    simpa[Array.getD_eq_getD_getElem?,h1]using h2
theorem zzs {k:IntKind}(hk:k= .i64)(ht:P.underlying t=some (.int k)):RdN n blk P t Int:=by
 subst hk
 intro H en w base spare held fuel cs x h _ _
 obtain⟨m,rfl,_,hw⟩:=DataW.trod_int ht h
 have hb:IntKind.min .i64≤m∧m≤IntKind.max .i64:=by simpa[Lit.wf]using hw
 exact⟨m,.one (.i .i64 m hb.1 hb.2)⟩
theorem zev {H:Type}{en:TypeId×Value→H}{w:World}{base:Nat}{spare:Nat→Bool}{held:Bool}{fuel:Nat}{cs:List Value}{x:DataW H×List MemPlace}{fs:Array Field}(ht:P.underlying t=some (.struct fs))
  (h:DataW.trod en P w base spare held fuel t cs=some x):cs.length=P.cellsOf t∧∃ps k,x.1= .agg ps∧∀f∈fs.toList,∃y,DataW.trod en P w base spare held k f.type ((cs.drop f.offset).take (P.cellsOf f.type))=some y∧y.1∈ps:=by
 cases fuel with
 |zero=>simp[DataW.trod]at h
 |succ fuel=>
  simp only[DataW.trod,ht]at h
  split at h
  case isFalse=>cases h
  rename_i hlen
  refine⟨hlen,?_⟩
  simp only[Option.map_eq_some_iff]at h
  obtain⟨xs,h1,rfl⟩:=h
  refine⟨_,fuel,rfl,?_⟩
  generalize fs.toList=l at h1 ⊢
  clear hlen ht
  induction l generalizing xs with
  |nil=>intro f hf;simp at hf
  |cons g l ih=>
   simp only[List.mapM_cons,Option.bind_eq_bind,Option.bind_eq_some_iff,Option.pure_def,Option.some.injEq]at h1
   obtain⟨y,hy,ys,hys,rfl⟩:=h1
   intro f hf
   rcases List.mem_cons.1 hf with rfl|hf
   ·exact⟨y,hy,by simp⟩
   ·obtain⟨z,hz1,hz2⟩:=ih _ hys f hf
    exact⟨z,hz1,by simp only[List.map_cons,List.mem_cons];exact .inr hz2⟩
theorem zt7 (hB:zlW blk){H:Type}{en:TypeId×Value→H}{w:World}{base:Nat}{spare:Nat→Bool}{held:Bool}{k:Nat}{cs:List Value}{ps:List (DataW H)}{f:Field}{α:Type}[Enc α]
  (h:∃y,DataW.trod en P w base spare held k f.type ((cs.drop f.offset).take (P.cellsOf f.type))=some y∧y.1∈ps)(hr:RdN n blk P f.type α)(hsz:SizeOf.sizeOf (DataW.agg ps)<n+1)(hb:blk H (.agg ps)≤1048576):
  ∃a:α,CR w ((cs.drop f.offset).take (P.cellsOf f.type)) (enc a).cells:=by
 obtain⟨y,h1,h2⟩:=h
 have q1:=List.sizeOf_lt_of_mem h2
 simp only[DataW.agg.sizeOf_spec]at hsz
 exact hr h1 (by omega) (Nat.le_trans (hB.ag _ _ _ h2) hb)
end
end Go.Abs
namespace Go.Abs
open Go Go.Deep
theorem zdz {n:Nat}{blk:(H:Type)→DataW H→Nat}(hB:zlW blk){P:Program}{H:Type}{en:TypeId×Value→H}{w:World}{base:Nat}{spare:Nat→Bool}{held:Bool}{k:Nat}{cs:List Value}{ps:List (DataW H)}{fs:Array Field}{α:Type}[Enc α]
  (hf:∀f∈fs.toList,∃y,DataW.trod en P w base spare held k f.type ((cs.drop f.offset).take (P.cellsOf f.type))=some y∧y.1∈ps)(i:Nat){f:Field}(hi:fs[i]?=some f){o s:Nat}(ho:f.offset=o){ty:TypeId}(hty:f.type=ty)(hs:P.cellsOf ty=s)
  (hr:RdN n blk P ty α)(hsz:SizeOf.sizeOf (DataW.agg ps)<n+1)(hb:blk H (.agg ps)≤1048576):∃a:α,CR w ((cs.drop o).take s) (enc a).cells:=by
 have hm:f∈fs.toList:=by
  rw[←Array.getElem?_toList]at hi
  exact List.mem_of_getElem? hi
 have:=zt7 hB (hf f hm) (hty▸hr) hsz hb
 rwa [ho,hty,hs]at this
end Go.Abs
namespace Go.Abs
open Go
def shI (k:Nat)(id:Id):Id:=(id.1,id.2+k)
mutual
def shD (k:Nat):D→D
 | .ptr id o=> .ptr (shI k id) o
 | .arr id es s len=> .arr (shI k id) es s len
 | .ow id es xs=> .ow (shI k id) es xs
 | .fn f caps=> .fn f (zrL k caps)
 | .agg ds=> .agg (zrL k ds)
 | .tup ds=> .tup (zrL k ds)
 | .junk=> .junk
 | .fz x=> .fz x
 | .full xs=> .full xs
 | .rp xs=> .rp xs
def zrL (k:Nat):List D→List D
 |[]=>[]
 |d::ds=>shD k d::zrL k ds
end
theorem zfp {k:Nat}:∀ds:List D,zrL k ds=ds.map (shD k)
 |[]=>rfl
 |d::ds=>by rw[zrL,zfp ds];rfl
section
variable {w:World} {L L2:Loc} {F:Nat→Nat→Prop} {U U2:Id→Prop} {k:Nat}
mutual
theorem zak.shift (hL:∀id,U id→L2 (shI k id)=L id)(hU:∀id,U id→U2 (shI k id)):∀(d:D) (v:Value),zak w L F U d v→zak w L2 F U2 (shD k d) v
 | .junk,_,_=>by simp[shD,zak]
 | .fz x,v,h=>by simpa only[shD,zak]using h
 | .full xs,v,h=>by simpa only[shD,zak]using h
 | .rp xs,v,h=>by simpa only[shD,zak]using h
 | .ptr id o,v,h=>by
  simp only[shD,zak]at h ⊢
  rw[hL id h.1];exact⟨hU id h.1,h.2⟩
 | .arr id es s len,v,h=>by
  simp only[shD,zak]at h ⊢
  rw[hL id h.1];exact⟨hU id h.1,h.2⟩
 | .ow id es xs,v,h=>by
  simp only[shD,zak]at h ⊢
  rw[hL id h.1];exact⟨hU id h.1,h.2⟩
 | .fn f caps,v,h=>by
  simp only[shD,zak]at h ⊢
  obtain⟨vs,h1,h2⟩:=h
  exact⟨vs,h1,zao.shift hL hU _ _ h2⟩
 | .agg ds,v,h=>by
  simp only[shD,zak]at h ⊢
  obtain⟨vs,h1,h2⟩:=h
  exact⟨vs,h1,zao.shift hL hU _ _ h2⟩
 | .tup ds,v,h=>by
  simp only[shD,zak]at h ⊢
  obtain⟨vs,h1,h2⟩:=h
  exact⟨vs,h1,zao.shift hL hU _ _ h2⟩
theorem zao.shift (hL:∀id,U id→L2 (shI k id)=L id)(hU:∀id,U id→U2 (shI k id)):∀(ds:List D) (vs:List Value),zao w L F U ds vs→zao w L2 F U2 (zrL k ds) vs
 |[],[],_=>by simp[zrL,zao]
 |d::ds,v::vs,h=>by
  simp only[zrL,zao]at h ⊢
  exact⟨zak.shift hL hU d v h.1,zao.shift hL hU ds vs h.2⟩
 |[],_::_,h=>h.elim
 |_::_,[],h=>h.elim
end
end
def shO (k:Nat)(o:O):O:={o with cells:=zrL k o.cells}
def shH (k:Nat)(H H1:zax):zax:=fun id=>if k≤id.2 then(H1 (id.1,id.2-k)).map (shO k)else H id
section
variable {P:Program} {G:Nat→List FD}
theorem zlZ {f:FuncId}{args:List D}{xs:List FD}{H:zax}{n:Nat}{Q:D→zax→Nat→Prop}(ha:D.toFDs args=some xs)(h:zaH P G f (xs.map .fz) H0 0 Q):
  zaH P G f args H n (fun d H' n'=>∃d1 H1 n1,Q d1 H1 n1∧d=shD n d1∧H'=shH n H H1∧n'=n+n1):=by
 refine⟨h.1,fun w L F vs hok hvs=>?_⟩
 refine(h.2 w L F vs ⟨hok.fb,(fun _ _ h=>nomatch h),(fun _ _ _ _ h=>nomatch h),hok.glob⟩ (hvs.of_toFDs ha)).mono fun e w' he=>?_
 obtain⟨v,d1,H1,n1,L1,F1,rfl,hQ,g1,g2,g3⟩:=he
 have nb:∀b,¬Blk H0 L b:=by rintro b ⟨_,_,h,_⟩;cases h
 have no:∀b k,¬Own H0 L b k:=by rintro b k ⟨_,_,h,_⟩;cases h
 obtain⟨L2,hL2⟩:∃L2:Loc,L2=fun id=>if n≤id.2 then L1 (id.1,id.2-n)else L id:=⟨_,rfl⟩
 have hLs:∀id,L2 (shI n id)=L1 id:=fun id=>by
  rw[hL2]
  exact(if_pos (show n≤(shI n id).2 by unfold shI;simp)).trans (by unfold shI;simp)
 have hLo:∀id,Ub n id→L2 id=L id:=fun id hid=>by
  rw[hL2];simp only;rw[if_neg (by unfold Ub at hid;omega)]
 have hUs:∀id,Ub n1 id→Ub (n+n1) (shI n id):=fun id hid=>by unfold Ub shI at*;simp only;omega
 have ext:Ext w L F (Ub n) w' L2 F1 (Ub (n+n1)):=⟨fun id hid=>by unfold Ub at*;omega,hLo,g3.f,fun b k hb=>g3.keepc b k (hok.fb b k hb) (no b k),g3.size,g3.shape⟩
 have cas:∀id o,shH n H H1 id=some o→(∃o1,n≤id.2∧H1 (id.1,id.2-n)=some o1∧o=shO n o1)∨(id.2<n∧H id=some o):=fun id o hid=>by
  unfold shH at hid
  split at hid
  ·rename_i hn
   simp only[Option.map_eq_some_iff]at hid
   obtain⟨o1,a,b⟩:=hid
   exact .inl ⟨o1,hn,a,b.symm⟩
  ·exact .inr ⟨by omega,hid⟩
 have idn:∀id:Id,n≤id.2→shI n (id.1,id.2-n)=id:=fun id hid=>by
  unfold shI;simp only;rw[Nat.sub_add_cancel hid]
 have newb:∀id o1,H1 id=some o1→(L1 id).3=false→w.heap.size≤(L1 id).1:=fun id o1 h1 h2=>by
  rcases g3.bnew (L1 id).1 (L1 id).2 ⟨id,o1,h1,h2,rfl,Nat.le_refl _⟩with h|h
  ·exact h
  ·exact absurd h (no _ _)
 refine⟨v,shD n d1,shH n H H1,n+n1,L2,F1,rfl,⟨d1,H1,n1,hQ,rfl,rfl,rfl⟩,⟨g1.fb,fun id o hid=>?_,fun id id' o o' h1 h2 v1 v2 e=>?_,g1.glob⟩,g2.shift (fun id _=>hLs id) hUs,?_⟩
 ·rcases cas id o hid with⟨o1,hn,h1,rfl⟩|⟨hn,h1⟩
  ·obtain⟨a,b⟩:=g1.live _ _ h1
   have hid2:=idn id hn
   refine⟨by rw[←hid2];exact hUs _ a,?_⟩
   have hLi:L2 id=L1 (id.1,id.2-n):=by rw[←hLs,hid2]
   unfold zbP at b ⊢
   rw[hLi]
   cases hv:(L1 (id.1,id.2-n)).3
   ·simp only[hv,Bool.false_eq_true,if_false]at b ⊢
    obtain⟨b1,cs,T,b2,b3,b4⟩:=b
    refine⟨b1,cs,T,b2,by simpa[shO,zfp]using b3,fun j hj=>?_⟩
    have hj':j<o1.cells.length:=by simpa[shO,zfp]using hj
    obtain⟨u,c1,c2⟩:=b4 j hj'
    refine⟨u,c1,?_⟩
    have hg:(shO n o1).cells.getD j .junk=shD n (o1.cells.getD j .junk):=by
     simp only[shO,zfp,List.getD_eq_getElem?_getD,List.getElem?_map,List.getElem?_eq_getElem hj',Option.map_some,Option.getD_some]
    rw[hg]
    exact c2.shift (fun id _=>hLs id) hUs
   ·simp only[hv,if_true]at b ⊢
    exact⟨by simp[shO,b.1,zrL],b.2⟩
  ·obtain⟨a,b⟩:=hok.live id o h1
   refine⟨ext.u _ a,b.ext ext a fun hv=>?_⟩
   have hlt:=hok.blk_lt h1 hv
   refine⟨g3.keep _ hlt (nb _),fun k hk hF=>?_⟩
   rcases g3.fnew _ _ hF with h|h|h
   ·exact(zaB b hv).1 k hk h
   ·omega
   ·exact no _ _ h
 ·rcases cas id o h1 with⟨o1,hn,e1,rfl⟩|⟨hn,e1⟩<;>rcases cas id' o' h2 with⟨o2,hn',e2,rfl⟩|⟨hn',e2⟩
  ·have i1:=idn id hn
   have i2:=idn id' hn'
   have l1:L2 id=L1 (id.1,id.2-n):=by rw[←hLs,i1]
   have l2:L2 id'=L1 (id'.1,id'.2-n):=by rw[←hLs,i2]
   rw[l1]at v1 e
   rw[l2]at v2 e
   have:=g1.inj _ _ _ _ e1 e2 v1 v2 e
   rw[←i1,←i2,this]
  ·have i1:=idn id hn
   have l1:L2 id=L1 (id.1,id.2-n):=by rw[←hLs,i1]
   have l2:=hLo id' hn'
   rw[l1]at v1 e
   rw[l2]at v2 e
   have a1:=newb _ _ e1 v1
   have a2:=hok.blk_lt e2 v2
   omega
  ·have i2:=idn id' hn'
   have l2:L2 id'=L1 (id'.1,id'.2-n):=by rw[←hLs,i2]
   have l1:=hLo id hn
   rw[l1]at v1 e
   rw[l2]at v2 e
   have a1:=newb _ _ e2 v2
   have a2:=hok.blk_lt e1 v1
   omega
  ·rw[hLo id hn]at v1 e
   rw[hLo id' hn']at v2 e
   exact hok.inj _ _ _ _ e1 e2 v1 v2 e
 ·refine⟨fun id hid=>by unfold Ub at*;omega,hLo,g3.f,g3.size,fun b hb _=>g3.keep b hb (nb b),fun b k hb _=>g3.keepc b k hb (no b k),g3.shape,fun b k hb=>?_,fun b k hb=>?_,g3.os,g3.tape,g3.output,g3.drawn⟩
  ·rcases g3.fnew b k hb with h|h|h
   ·exact .inl h
   ·exact .inr (.inl h)
   ·exact absurd h (no b k)
  ·obtain⟨id,o,h1,h2,rfl,h4⟩:=hb
   rcases cas id o h1 with⟨o1,hn,e1,rfl⟩|⟨hn,e1⟩
   ·have i1:=idn id hn
    have l1:L2 id=L1 (id.1,id.2-n):=by rw[←hLs,i1]
    rw[l1]at h2 ⊢
    exact .inl (newb _ _ e1 h2)
   ·rw[hLo id hn]at h2 h4 ⊢
    exact .inr ⟨id,o,e1,h2,rfl,h4⟩
end
end Go.Abs
namespace Go.Abs
open Go
section
variable {P:Program} {G:Nat→List FD}
theorem zfE {f:FuncId}{args:List D}{H:zax}{n:Nat}{R:D→zax→Nat→Prop}(hc:zap P f)(h:(∀id,n≤id.2→H id=none)→zaH P G f args H n R):zaH P G f args H n R:=by
 refine⟨hc,fun w L F vs hok hvs=>(h fun id hid=>?_).2 w L F vs hok hvs⟩
 cases ho:H id with
 |none=>rfl
 |some o=>have:=(hok.live id o ho).1;unfold Ub at this;omega
theorem zvm {N:Nat}{st:St}{l:List (Nat×D)}{H':zax}{n:Nat}(hf:zrY st.fr l)(hh:∀id o,H' id=some o→st.H id=some o)(hn:st.n≤n):zd2 G N st ⟨frL l,H',n⟩:=zff hf hh hn
theorem zcH {f:FuncId}{args:List D}{H:zax}{n:Nat}{R:D→zax→Nat→Prop}{d:D}(hc:zap P f)
  (h:(∀id,n≤id.2→H id=none)→zaH P G f args H n (fun d' H' n'=>d'=d∧n≤n'∧∀id,id.2<n→H' id=H id))(hR:∀n',n≤n'→R d H n'):zaH P G f args H n R:=by
 refine zfE hc fun hfr=>zb1 (h hfr) ?_
 rintro d' H' n' ⟨rfl,h1,h2⟩
 refine⟨d',H,n',zvm ?_ (fun id o ho=>?_) (Nat.le_refl _),hR n' h1⟩
 ·exact⟨rfl,trivial⟩
 ·rcases Nat.lt_or_ge id.2 n with h3|h3
  ·exact(h2 id h3).trans ho
  ·rw[hfr id h3]at ho;cases ho
end
theorem zoD {n:Nat}{f:zax}:∀{l:List (Id×Option O)},(∀p∈l,n≤p.1.2)→∀id,id.2<n→hpX l f id=f id
 |[],_,_,_=>rfl
 |(i,o)::l,h,id,hid=>by
  have h1:=h (i,o) (by simp)
  simp only[hpX]
  rw[if_neg (by rintro rfl;simp only at h1;omega)]
  exact zoD (fun p hp=>h p (by simp[hp])) id hid
end Go.Abs
