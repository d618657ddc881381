/- several texts of this proof in one; no conditions -/
import Derived.Test.YtalbdmcklgglbaaDoorA3
set_option linter.unusedSimpArgs false
namespace Go.Abs
open Go
section
variable {P:Program} {G:Nat→List FD} {T:Tbl}
def sp0 {ρ:Type}[Enc ρ](f:ρ):List FD→Option (D×Prop)
 |[]=>some (.fz (enc f),True)
 |_=>none
@[go_sem] theorem zGh {ρ:Type}[Enc ρ]{f:ρ}:sp0 f []=some (.fz (enc f),True):=rfl
theorem zzH {ρ:Type}[Enc ρ]{f:FuncId}{g:ρ}(hT:zan P G T)
  (h:zav P G f [] (hpL []) 0 (fun d _ _=>D.val d=some (.fz (enc g)))):zan P G (T.add f (sp0 g)):=by
 refine zcB hT fun xs r c hx _=>?_
 unfold sp0 at hx
 split at hx
 ·simp only[Option.some.injEq,Prod.mk.injEq]at hx
  obtain⟨rfl,rfl⟩:=hx
  rw[zdo]
  exact h
 ·cases hx
def sp4 {α β γ δ ρ:Type}[Enc α][Enc β][Enc γ][Enc δ][Enc ρ](f:α→β→γ→δ→ρ)(pre:α→β→γ→δ→Prop):List FD→Option (D×Prop)
 |[x,y,z,w]=>some (.fz (enc (f (dec x) (dec y) (dec z) (dec w))),x=enc (dec (α:=α) x)∧y=enc (dec (α:=β) y)∧z=enc (dec (α:=γ) z)∧w=enc (dec (α:=δ) w)∧pre (dec x) (dec y) (dec z) (dec w))
 |_=>none
@[go_sem] theorem zGj {α β γ δ ρ:Type}[Enc α][Enc β][Enc γ][Enc δ][Enc ρ]{f:α→β→γ→δ→ρ}{pre:α→β→γ→δ→Prop}{x y z w:FD}:sp4 f pre [x,y,z,w]=some (.fz (enc (f (dec x) (dec y) (dec z) (dec w))),x=enc (dec (α:=α) x)∧y=enc (dec (α:=β) y)∧z=enc (dec (α:=γ) z)∧w=enc (dec (α:=δ) w)∧pre (dec x) (dec y) (dec z) (dec w)):=rfl
def zzI {α β ρ σ:Type}[Enc α][Enc β][Enc ρ][Enc σ](f:α→β→ρ×σ)(pre:α→β→Prop):List FD→Option (D×Prop)
 |[x,y]=>some (.tup [.fz (enc (f (dec x) (dec y)).1),.fz (enc (f (dec x) (dec y)).2)],x=enc (dec (α:=α) x)∧y=enc (dec (α:=β) y)∧pre (dec x) (dec y))
 |_=>none
@[go_sem] theorem zEq {α β ρ σ:Type}[Enc α][Enc β][Enc ρ][Enc σ]{f:α→β→ρ×σ}{pre:α→β→Prop}{x y:FD}:zzI f pre [x,y]=some (.tup [.fz (enc (f (dec x) (dec y)).1),.fz (enc (f (dec x) (dec y)).2)],x=enc (dec (α:=α) x)∧y=enc (dec (α:=β) y)∧pre (dec x) (dec y)):=rfl
theorem zwL {α β ρ σ:Type}[Enc α][Enc β][Enc ρ][Enc σ]{f:FuncId}{g:α→β→ρ×σ}{pre:α→β→Prop}(hc:zam P f)(hT:zan P G T)
  (h:∀a b,pre a b→(enc a).Wf→(enc b).Wf→zav P G f [.fz (enc a),.fz (enc b)] (hpL []) 0 (fun d _ _=>D.val d=some (.tup [.fz (enc (g a b).1),.fz (enc (g a b).2)]))):zan P G (T.add f (zzI g pre)):=by
 refine zcB hT fun xs r c hx hcc=>?_
 unfold zzI at hx
 split at hx
 ·rename_i x y
  simp only[Option.some.injEq,Prod.mk.injEq]at hx
  obtain⟨rfl,rfl⟩:=hx
  obtain⟨e,e2,hp⟩:=hcc
  refine zdP hc fun hw=>?_
  rw[zdo]
  have:=h (dec x) (dec y) hp (by rw[←e];exact hw x (by simp)) (by rw[←e2];exact hw y (by simp))
  rw[←e,←e2]at this
  exact this
 ·cases hx
def zGV {α β γ ρ σ:Type}[Enc α][Enc β][Enc γ][Enc ρ][Enc σ](f:α→β→γ→ρ×σ)(pre:α→β→γ→Prop):List FD→Option (D×Prop)
 |[x,y,z]=>some (.tup [.fz (enc (f (dec x) (dec y) (dec z)).1),.fz (enc (f (dec x) (dec y) (dec z)).2)],x=enc (dec (α:=α) x)∧y=enc (dec (α:=β) y)∧z=enc (dec (α:=γ) z)∧pre (dec x) (dec y) (dec z))
 |_=>none
@[go_sem] theorem zEr {α β γ ρ σ:Type}[Enc α][Enc β][Enc γ][Enc ρ][Enc σ]{f:α→β→γ→ρ×σ}{pre:α→β→γ→Prop}{x y z:FD}:zGV f pre [x,y,z]=some (.tup [.fz (enc (f (dec x) (dec y) (dec z)).1),.fz (enc (f (dec x) (dec y) (dec z)).2)],x=enc (dec (α:=α) x)∧y=enc (dec (α:=β) y)∧z=enc (dec (α:=γ) z)∧pre (dec x) (dec y) (dec z)):=rfl
end
def orI (n m:Int):Int:=IntKind.wrap .i64 (BitVec.ofInt 64 n|||BitVec.ofInt 64 m).toNat
def zDu (n m:Int):Int:=IntKind.wrap .i64 (BitVec.ofInt 64 n&&& BitVec.ofInt 64 m).toNat
@[go_sem] theorem zD8 {n m:Int}:zdd .or .i64 .i64 n m=some (.fz (.i .i64 (orI n m)),True):=by
 simp only[zdd,orI,eq_self];rfl
@[go_sem] theorem zCk {n m:Int}:zdd .and .i64 .i64 n m=some (.fz (.i .i64 (zDu n m)),True):=by
 simp only[zdd,zDu,eq_self];rfl
class Kc (α:Type)[Enc α](k:outParam Nat):Prop where
 len:∀a:α,(enc a).cells.length=k
theorem zek {α:Type}[Enc α]{k:Nat}[Kc α k](l:List α):zbi (l.map enc) k:=zfw (f:=enc) (k:=k) Kc.len l
@[go_sem] theorem zGC {n n':Nat}{pre:Id→Id}{vn:Id→Bool}{z:Id→Option (List FD)}{H:zas}{ds ds':List D}:Dr n n' pre vn z H (.agg ds) (.agg ds')=Drs n n' pre vn z H ds ds':=by
 simp only[Dr,D.agg.injEq,eq_iff_iff]
 exact⟨fun⟨_,h1,h2⟩=>h1▸h2,fun h=>⟨_,rfl,h⟩⟩
end Go.Abs
namespace Go.Abs
open Go
mutual
inductive Tr where
 |leaf
 |node (l:Trs)
inductive Trs where
 |nil
 |cons (i:Nat) (t:Tr) (l:Trs)
end
mutual
def zHk (ops:Array Oper):Tr→Array Bool→Bool
 | .leaf,listed=>(Region.ready .any ops listed).isEmpty
 | .node l,listed=> !(Region.ready .any ops listed).isEmpty&&zzO ops l listed (Region.ready .any ops listed)
def zzO (ops:Array Oper):Trs→Array Bool→List Nat→Bool
 | .nil,_,r=>r.isEmpty
 | .cons i t l,listed,r=>(match r with
   |j::r'=>(i==j)&&zHk ops t (listed.setIfInBounds i true)&&zzO ops l listed r'
   |[]=>false)
end
mutual
def zh3:Tr→Nat
 | .leaf=>0
 | .node l=>zgd l+1
def zgd:Trs→Nat
 | .nil=>0
 | .cons _ t l=>max (zh3 t) (zgd l)
end
section
variable (P:Program) (G:Nat→List FD) (T:Tbl) (N tag0:Nat) (am:Nat→Bool) (ops:Array Oper)
def zfH (o:Option Oper)(k:St→Prop)(st:St):Prop:=Bi o fun o=>Bi (zlf ops st.fr o.guard) fun b=>zdn b (XO P G T N tag0 am st k o.dst o.op) (Chk (zaS N o.dst) (k (st.put o.dst (.tup []))))
mutual
def zoc:Tr→(St→Prop)→St→Prop
 | .leaf,K,st=>K st
 | .node l,K,st=>zlT l K st
def zlT:Trs→(St→Prop)→St→Prop
 | .nil,_,_=>True
 | .cons i t l,K,st=>zfH P G T N tag0 am ops ops[i]? (zoc t K) st∧zlT l K st
end
end
section
variable {P:Program} {G:Nat→List FD} {T:Tbl} {N tag0:Nat} {am:Nat→Bool} {ops:Array Oper} {K:St→Prop}
end
def zer (P:Program)(G:Nat→List FD)(T:Tbl)(N tag0:Nat)(am:Nat→Bool)(ops:Array Oper)(o:Option Oper)(st:St)[k:Kn St]:Prop:=zfH P G T N tag0 am ops o k.run st
def zlS (P:Program)(G:Nat→List FD)(T:Tbl)(N tag0:Nat)(am:Nat→Bool)(ops:Array Oper)(t:Tr)(st:St)[k:Kn St]:Prop:=zoc P G T N tag0 am ops t k.run st
def zgw (P:Program)(G:Nat→List FD)(T:Tbl)(N tag0:Nat)(am:Nat→Bool)(ops:Array Oper)(t:Trs)(st:St)[k:Kn St]:Prop:=zlT P G T N tag0 am ops t k.run st
section
variable {P:Program} {G:Nat→List FD} {T:Tbl} {N tag0:Nat} {am:Nat→Bool} {ops:Array Oper} {st:St} {k:St→Prop} {t:Tr} {l:Trs} {i:Nat} {o:Oper}
@[go_sem] theorem zy8:@zlS P G T N tag0 am ops .leaf st ⟨k⟩=k st:=by unfold zlS;rw[zoc];rfl
@[go_sem] theorem zy9:@zlS P G T N tag0 am ops (.node l) st ⟨k⟩=@zgw P G T N tag0 am ops l st ⟨k⟩:=by unfold zlS zgw;rw[zoc]
@[go_sem] theorem zza:@zgw P G T N tag0 am ops .nil st ⟨k⟩=True:=by unfold zgw;rw[zlT]
@[go_sem] theorem zxF:@zgw P G T N tag0 am ops (.cons i t l) st ⟨k⟩=(@zer P G T N tag0 am ops ops[i]? st ⟨fun st=>@zlS P G T N tag0 am ops t st ⟨k⟩⟩∧@zgw P G T N tag0 am ops l st ⟨k⟩):=by
 unfold zgw zer;rw[zlT];rfl
@[go_sem] theorem zCW:@zer P G T N tag0 am ops (some o) st ⟨k⟩=@BiK _ (zlf ops st.fr o.guard) ⟨fun b=>@zaB b ⟨@XOK P G T N tag0 am st o.dst o.op ⟨k⟩⟩ ⟨@zgX (zaS N o.dst) ⟨k (st.put o.dst (.tup []))⟩⟩⟩:=by
 unfold zer zfH BiK zaB XOK zgX;rfl
end
attribute [irreducible] zer zlS zgw
end Go.Abs
namespace Go.Abs
open Go Go.Deep
def CR (w:World)(cs:List Value)(ys:List FD):Prop:=cs.length=ys.length∧∀j,j<cs.length→zbn w (zkd w) (cs.getD j undef) (ys.getD j .nilf)
theorem CR.nil {w:World}:CR w [] []:=⟨rfl,fun j hj=>by simp at hj⟩
theorem CR.app {w:World}{cs ds:List Value}{xs ys:List FD}(h1:CR w cs xs)(h2:CR w ds ys):CR w (cs++ds) (xs++ys):=by
 refine⟨by rw[List.length_append,List.length_append,h1.1,h2.1],fun j hj=>?_⟩
 rw[List.length_append]at hj
 by_cases hj1:j<cs.length
 ·rw[List.getD_eq_getElem?_getD,List.getElem?_append_left hj1,List.getD_eq_getElem?_getD,List.getElem?_append_left (by rw[←h1.1];exact hj1)]
  have:=h1.2 j hj1
  rwa [List.getD_eq_getElem?_getD,List.getD_eq_getElem?_getD]at this
 ·rw[List.getD_eq_getElem?_getD,List.getElem?_append_right (by omega),List.getD_eq_getElem?_getD,List.getElem?_append_right (by rw[←h1.1];omega),←h1.1]
  have:=h2.2 (j-cs.length) (by omega)
  rwa [List.getD_eq_getElem?_getD,List.getD_eq_getElem?_getD]at this
theorem CR.one {w:World}{v:Value}{y:FD}(h:zbn w (zkd w) v y):CR w [v] [y]:=⟨rfl,fun j hj=>by
 obtain rfl:j=0:=by simp at hj;omega
 exact h⟩
theorem CR.agg {w:World}{cs:Array Value}{ys:List FD}(h:CR w cs.toList ys):zbn w (zkd w) (.agg cs) (.agg ys):=by
 have:=zbn.agg (w:=w) (F:=zkd w) cs.toList ys h.1 (fun j hj=>h.2 j (by rw[h.1];exact hj))
 simpa using this
theorem CR.part {w:World}{cs:List Value}{o s:Nat}{xs ys:List FD}(h1:CR w ((cs.drop o).take s) xs)(h2:CR w (cs.drop (o+s)) ys):CR w (cs.drop o) (xs++ys):=by
 have:=h1.app h2
 rwa [←List.drop_drop,List.take_append_drop]at this
theorem CR.fin {w:World}{cs:List Value}{o:Nat}(h:cs.length=o):CR w (cs.drop o) []:=by
 rw[List.drop_of_length_le (by omega)];exact .nil
def RdN (n:Nat)(blk:(H:Type)→DataW H→Nat)(P:Program)(t:TypeId)(α:Type)[Enc α]:Prop:=
 ∀{H:Type} {en:TypeId×Value→H} {w:World} {base:Nat} {spare:Nat→Bool} {held:Bool} {fuel:Nat} {cs:List Value} {x:DataW H×List MemPlace},
  DataW.trod en P w base spare held fuel t cs=some x→SizeOf.sizeOf x.1<n→blk H x.1≤1048576→∃a:α,CR w cs (enc a).cells
section
variable {n:Nat} {blk:(H:Type)→DataW H→Nat} {P:Program} {t e:TypeId}
theorem RdN.of {α:Type}[Enc α](h:Rd blk P t α):RdN n blk P t α:=fun h1 _ h2=>h h1 h2
theorem RdN.to {α:Type}[Enc α](h:∀n,RdN n blk P t α):Rd blk P t α:=fun h1 h2=>h _ h1 (Nat.lt_succ_self _) h2
theorem zfE (hB:zki blk){α:Type}[Enc α](ht:P.underlying t=some (.slice e))(hes:0<P.cellsOf e)(hr:RdN n blk P e α):RdN n blk P t (List α):=by
 intro H en w base spare held fuel cs x h hsz hbk
 rcases open_slice ht h with⟨rfl,_⟩|⟨a,len,cap,m,k,D,Pl,rfl,hb,hl,hm,hme,rfl,hel⟩
 ·exact⟨[],.one (.sl0 none 0)⟩
 ·have hlm:len≤m:=by rw[hme];split<;>omega
  have each:∀i,i<len→∃b:α,(enc b).cells.length=P.cellsOf e∧∀j,j<P.cellsOf e→∃v,w.cell? ((a.add (i*P.cellsOf e)).add j)=some v∧zbn w (zkd w) v ((enc b).cells.getD j .nilf):=fun i hi=>by
   obtain⟨cs',h1,h2⟩:=hel i (by omega)
   obtain⟨g1,g2⟩:=cells?_get h1
   have hmem:D i∈(List.range len).map D:=List.mem_map.2 ⟨i,List.mem_range.2 hi,rfl⟩
   have hlt:SizeOf.sizeOf (D i)<n:=by
    have q1:=List.sizeOf_lt_of_mem hmem
    simp only[DataW.slice.sizeOf_spec]at hsz
    omega
   obtain⟨b,b1,b2⟩:=hr h2 hlt (Nat.le_trans (hB.el _ _ _ _ hmem) hbk)
   exact⟨b,by rw[←b1,g1],fun j hj=>⟨_,g2 j hj,b2 j (by rw[g1];exact hj)⟩⟩
  obtain⟨l,l1,l2⟩:=zhy len each
  refine⟨l,.one ?_⟩
  have hmax:len≤zaZ:=by
   have:=Nat.le_trans (hB.sl _ _ _) hbk
   simp only[List.length_map,List.length_range]at this
   unfold zaZ;omega
  have hxl:(l.map enc).length=len:=by simp[l1]
  show zbn w (zkd w) (.slice (some a) len cap) (.sl (l.map enc))
  rcases Nat.eq_zero_or_pos len with h0|h0
  ·have:l=[]:=List.eq_nil_of_length_eq_zero (by omega)
   subst this
   rw[h0]
   exact .sl0 _ _
  ·have gd:∀i (hi:i<len),(l.map enc).getD i .nilf=enc (l[i]'(by omega)):=fun i hi=>by
    simp[List.getD_eq_getElem?_getD,show i<l.length by omega]
   obtain⟨v0,hv0,_⟩:=(l2 0 (by omega)).2 0 hes
   rw[Nat.zero_mul]at hv0
   have ha0:(a.add 0).add 0=a:=by simp[Addr.add]
   rw[ha0]at hv0
   obtain⟨hsp,cs,T,fr,hcs,_⟩:=cell?_some hv0
   have hlt:a.block<w.heap.size:=by
    rcases Nat.lt_or_ge a.block w.heap.size with h|h
    ·exact h
    ·rw[Array.getElem?_eq_none h]at hcs;cases hcs
   have ea:a=⟨a.block,a.off,none⟩:=by cases a;simp at hsp;subst hsp;rfl
   have key:∀i j,i<len→j<P.cellsOf e→∃v,cs[a.off+i*P.cellsOf e+j]?=some v∧zbn w (zkd w) v (((l.map enc).getD i .nilf).cells.getD j .nilf):=fun i j hi hj=>by
    obtain⟨v,h1,h2⟩:=(l2 i (by omega)).2 j hj
    rw[ea,zby,zby,zfY hcs]at h1
    exact⟨v,h1,by rw[gd i hi];exact h2⟩
   rw[ea,←hxl]
   refine zbn.sl a.block a.off cap (P.cellsOf e) _ (fun i j=>cs.getD (a.off+i*P.cellsOf e+j) undef) (by omega) (by omega) (fun _ _=>hlt) (fun i hi=>?_) (fun i j hi hj=>?_) (fun i j hi hj=>?_)
   ·rw[gd i (by omega)];exact(l2 i (by omega)).1
   ·obtain⟨v,h1,_⟩:=key i j (by omega) hj
    rw[zg9 hcs]
    simp[Array.getD_eq_getD_getElem?,h1]
   ·obtain⟨v,h1,h2⟩:=key i j (by omega) hj
    simpa[Array.getD_eq_getD_getElem?,h1]using h2
theorem zrI {k:IntKind}(hk:k= .i64)(ht:P.underlying t=some (.int k)):RdN n blk P t Int:=by
 subst hk
 intro H en w base spare held fuel cs x h _ _
 obtain⟨m,rfl,_,hw⟩:=DataW.trod_int ht h
 have hb:IntKind.min .i64≤m∧m≤IntKind.max .i64:=by simpa[Lit.wf]using hw
 exact⟨m,.one (.i .i64 m hb.1 hb.2)⟩
theorem ze7 {H:Type}{en:TypeId×Value→H}{w:World}{base:Nat}{spare:Nat→Bool}{held:Bool}{fuel:Nat}{cs:List Value}{x:DataW H×List MemPlace}{fs:Array Field}(ht:P.underlying t=some (.struct fs))
  (h:DataW.trod en P w base spare held fuel t cs=some x):cs.length=P.cellsOf t∧∃ps k,x.1= .agg ps∧∀f∈fs.toList,∃y,DataW.trod en P w base spare held k f.type ((cs.drop f.offset).take (P.cellsOf f.type))=some y∧y.1∈ps:=by
 cases fuel with
 |zero=>simp[DataW.trod]at h
 |succ fuel=>
  simp only[DataW.trod,ht]at h
  split at h
  case isFalse=>cases h
  rename_i hlen
  refine⟨hlen,?_⟩
  simp only[Option.map_eq_some_iff]at h
  obtain⟨xs,h1,rfl⟩:=h
  refine⟨_,fuel,rfl,?_⟩
  generalize fs.toList=l at h1 ⊢
  clear hlen ht
  induction l generalizing xs with
  |nil=>intro f hf;simp at hf
  |cons g l ih=>
   simp only[List.mapM_cons,Option.bind_eq_bind,Option.bind_eq_some_iff,Option.pure_def,Option.some.injEq]at h1
   obtain⟨y,hy,ys,hys,rfl⟩:=h1
   intro f hf
   rcases List.mem_cons.1 hf with rfl|hf
   ·exact⟨y,hy,by simp⟩
   ·obtain⟨z,hz1,hz2⟩:=ih _ hys f hf
    exact⟨z,hz1,by simp only[List.map_cons,List.mem_cons];exact .inr hz2⟩
theorem zrH (hB:zki blk){H:Type}{en:TypeId×Value→H}{w:World}{base:Nat}{spare:Nat→Bool}{held:Bool}{k:Nat}{cs:List Value}{ps:List (DataW H)}{f:Field}{α:Type}[Enc α]
  (h:∃y,DataW.trod en P w base spare held k f.type ((cs.drop f.offset).take (P.cellsOf f.type))=some y∧y.1∈ps)(hr:RdN n blk P f.type α)(hsz:SizeOf.sizeOf (DataW.agg ps)<n+1)(hb:blk H (.agg ps)≤1048576):
  ∃a:α,CR w ((cs.drop f.offset).take (P.cellsOf f.type)) (enc a).cells:=by
 obtain⟨y,h1,h2⟩:=h
 have q1:=List.sizeOf_lt_of_mem h2
 simp only[DataW.agg.sizeOf_spec]at hsz
 exact hr h1 (by omega) (Nat.le_trans (hB.ag _ _ _ h2) hb)
end
end Go.Abs
namespace Go.Abs
open Go Go.Deep
theorem zds {n:Nat}{blk:(H:Type)→DataW H→Nat}(hB:zki blk){P:Program}{H:Type}{en:TypeId×Value→H}{w:World}{base:Nat}{spare:Nat→Bool}{held:Bool}{k:Nat}{cs:List Value}{ps:List (DataW H)}{fs:Array Field}{α:Type}[Enc α]
  (hf:∀f∈fs.toList,∃y,DataW.trod en P w base spare held k f.type ((cs.drop f.offset).take (P.cellsOf f.type))=some y∧y.1∈ps)(i:Nat){f:Field}(hi:fs[i]?=some f){o s:Nat}(ho:f.offset=o){ty:TypeId}(hty:f.type=ty)(hs:P.cellsOf ty=s)
  (hr:RdN n blk P ty α)(hsz:SizeOf.sizeOf (DataW.agg ps)<n+1)(hb:blk H (.agg ps)≤1048576):∃a:α,CR w ((cs.drop o).take s) (enc a).cells:=by
 have hm:f∈fs.toList:=by
  rw[←Array.getElem?_toList]at hi
  exact List.mem_of_getElem? hi
 have:=zrH hB (hf f hm) (hty▸hr) hsz hb
 rwa [ho,hty,hs]at this
end Go.Abs
namespace Go.Abs
open Go
def shI (k:Nat)(id:Id):Id:=(id.1,id.2+k)
mutual
def shD (k:Nat):D→D
 | .ptr id o=> .ptr (shI k id) o
 | .arr id es s len=> .arr (shI k id) es s len
 | .ow id es xs=> .ow (shI k id) es xs
 | .fn f caps=> .fn f (zn4 k caps)
 | .agg ds=> .agg (zn4 k ds)
 | .tup ds=> .tup (zn4 k ds)
 | .junk=> .junk
 | .fz x=> .fz x
 | .full xs=> .full xs
 | .rp xs=> .rp xs
def zn4 (k:Nat):List D→List D
 |[]=>[]
 |d::ds=>shD k d::zn4 k ds
end
theorem zd0 {k:Nat}:∀ds:List D,zn4 k ds=ds.map (shD k)
 |[]=>rfl
 |d::ds=>by rw[zn4,zd0 ds];rfl
section
variable {w:World} {L L2:Loc} {F:Nat→Nat→Prop} {U U2:Id→Prop} {k:Nat}
mutual
theorem zak.shift (hL:∀id,U id→L2 (shI k id)=L id)(hU:∀id,U id→U2 (shI k id)):∀(d:D) (v:Value),zak w L F U d v→zak w L2 F U2 (shD k d) v
 | .junk,_,_=>by simp[shD,zak]
 | .fz x,v,h=>by simpa only[shD,zak]using h
 | .full xs,v,h=>by simpa only[shD,zak]using h
 | .rp xs,v,h=>by simpa only[shD,zak]using h
 | .ptr id o,v,h=>by
  simp only[shD,zak]at h ⊢
  rw[hL id h.1];exact⟨hU id h.1,h.2⟩
 | .arr id es s len,v,h=>by
  simp only[shD,zak]at h ⊢
  rw[hL id h.1];exact⟨hU id h.1,h.2⟩
 | .ow id es xs,v,h=>by
  simp only[shD,zak]at h ⊢
  rw[hL id h.1];exact⟨hU id h.1,h.2⟩
 | .fn f caps,v,h=>by
  simp only[shD,zak]at h ⊢
  obtain⟨vs,h1,h2⟩:=h
  exact⟨vs,h1,zap.shift hL hU _ _ h2⟩
 | .agg ds,v,h=>by
  simp only[shD,zak]at h ⊢
  obtain⟨vs,h1,h2⟩:=h
  exact⟨vs,h1,zap.shift hL hU _ _ h2⟩
 | .tup ds,v,h=>by
  simp only[shD,zak]at h ⊢
  obtain⟨vs,h1,h2⟩:=h
  exact⟨vs,h1,zap.shift hL hU _ _ h2⟩
theorem zap.shift (hL:∀id,U id→L2 (shI k id)=L id)(hU:∀id,U id→U2 (shI k id)):∀(ds:List D) (vs:List Value),zap w L F U ds vs→zap w L2 F U2 (zn4 k ds) vs
 |[],[],_=>by simp[zn4,zap]
 |d::ds,v::vs,h=>by
  simp only[zn4,zap]at h ⊢
  exact⟨zak.shift hL hU d v h.1,zap.shift hL hU ds vs h.2⟩
 |[],_::_,h=>h.elim
 |_::_,[],h=>h.elim
end
end
def shO (k:Nat)(o:O):O:={o with cells:=zn4 k o.cells}
def shH (k:Nat)(H H1:zas):zas:=fun id=>if k≤id.2 then(H1 (id.1,id.2-k)).map (shO k)else H id
section
variable {P:Program} {G:Nat→List FD}
theorem zfc {f:FuncId}{args:List D}{xs:List FD}{H:zas}{n:Nat}{Q:D→zas→Nat→Prop}(ha:D.toFDs args=some xs)(h:zav P G f (xs.map .fz) H0 0 Q):
  zav P G f args H n (fun d H' n'=>∃d1 H1 n1,Q d1 H1 n1∧d=shD n d1∧H'=shH n H H1∧n'=n+n1):=by
 refine⟨h.1,fun w L F vs hok hvs=>?_⟩
 refine(h.2 w L F vs ⟨hok.fb,(fun _ _ h=>nomatch h),(fun _ _ _ _ h=>nomatch h),hok.glob⟩ (hvs.of_toFDs ha)).mono fun e w' he=>?_
 obtain⟨v,d1,H1,n1,L1,F1,rfl,hQ,g1,g2,g3⟩:=he
 have nb:∀b,¬Blk H0 L b:=by rintro b ⟨_,_,h,_⟩;cases h
 have no:∀b k,¬Own H0 L b k:=by rintro b k ⟨_,_,h,_⟩;cases h
 obtain⟨L2,hL2⟩:∃L2:Loc,L2=fun id=>if n≤id.2 then L1 (id.1,id.2-n)else L id:=⟨_,rfl⟩
 have hLs:∀id,L2 (shI n id)=L1 id:=fun id=>by
  rw[hL2]
  exact(if_pos (show n≤(shI n id).2 by unfold shI;simp)).trans (by unfold shI;simp)
 have hLo:∀id,Ub n id→L2 id=L id:=fun id hid=>by
  rw[hL2];simp only;rw[if_neg (by unfold Ub at hid;omega)]
 have hUs:∀id,Ub n1 id→Ub (n+n1) (shI n id):=fun id hid=>by unfold Ub shI at*;simp only;omega
 have ext:Ext w L F (Ub n) w' L2 F1 (Ub (n+n1)):=⟨fun id hid=>by unfold Ub at*;omega,hLo,g3.f,fun b k hb=>g3.keepc b k (hok.fb b k hb) (no b k),g3.size,g3.shape⟩
 have cas:∀id o,shH n H H1 id=some o→(∃o1,n≤id.2∧H1 (id.1,id.2-n)=some o1∧o=shO n o1)∨(id.2<n∧H id=some o):=fun id o hid=>by
  unfold shH at hid
  split at hid
  ·rename_i hn
   simp only[Option.map_eq_some_iff]at hid
   obtain⟨o1,a,b⟩:=hid
   exact .inl ⟨o1,hn,a,b.symm⟩
  ·exact .inr ⟨by omega,hid⟩
 have idn:∀id:Id,n≤id.2→shI n (id.1,id.2-n)=id:=fun id hid=>by
  unfold shI;simp only;rw[Nat.sub_add_cancel hid]
 have newb:∀id o1,H1 id=some o1→(L1 id).3=false→w.heap.size≤(L1 id).1:=fun id o1 h1 h2=>by
  rcases g3.bnew (L1 id).1 (L1 id).2 ⟨id,o1,h1,h2,rfl,Nat.le_refl _⟩with h|h
  ·exact h
  ·exact absurd h (no _ _)
 refine⟨v,shD n d1,shH n H H1,n+n1,L2,F1,rfl,⟨d1,H1,n1,hQ,rfl,rfl,rfl⟩,⟨g1.fb,fun id o hid=>?_,fun id id' o o' h1 h2 v1 v2 e=>?_,g1.glob⟩,g2.shift (fun id _=>hLs id) hUs,?_⟩
 ·rcases cas id o hid with⟨o1,hn,h1,rfl⟩|⟨hn,h1⟩
  ·obtain⟨a,b⟩:=g1.live _ _ h1
   have hid2:=idn id hn
   refine⟨by rw[←hid2];exact hUs _ a,?_⟩
   have hLi:L2 id=L1 (id.1,id.2-n):=by rw[←hLs,hid2]
   unfold zb2 at b ⊢
   rw[hLi]
   cases hv:(L1 (id.1,id.2-n)).3
   ·simp only[hv,Bool.false_eq_true,if_false]at b ⊢
    obtain⟨b1,cs,T,b2,b3,b4⟩:=b
    refine⟨b1,cs,T,b2,by simpa[shO,zd0]using b3,fun j hj=>?_⟩
    have hj':j<o1.cells.length:=by simpa[shO,zd0]using hj
    obtain⟨u,c1,c2⟩:=b4 j hj'
    refine⟨u,c1,?_⟩
    have hg:(shO n o1).cells.getD j .junk=shD n (o1.cells.getD j .junk):=by
     simp only[shO,zd0,List.getD_eq_getElem?_getD,List.getElem?_map,List.getElem?_eq_getElem hj',Option.map_some,Option.getD_some]
    rw[hg]
    exact c2.shift (fun id _=>hLs id) hUs
   ·simp only[hv,if_true]at b ⊢
    exact⟨by simp[shO,b.1,zn4],b.2⟩
  ·obtain⟨a,b⟩:=hok.live id o h1
   refine⟨ext.u _ a,b.ext ext a fun hv=>?_⟩
   have hlt:=hok.blk_lt h1 hv
   refine⟨g3.keep _ hlt (nb _),fun k hk hF=>?_⟩
   rcases g3.fnew _ _ hF with h|h|h
   ·exact(zaC b hv).1 k hk h
   ·omega
   ·exact no _ _ h
 ·rcases cas id o h1 with⟨o1,hn,e1,rfl⟩|⟨hn,e1⟩<;>rcases cas id' o' h2 with⟨o2,hn',e2,rfl⟩|⟨hn',e2⟩
  ·have i1:=idn id hn
   have i2:=idn id' hn'
   have l1:L2 id=L1 (id.1,id.2-n):=by rw[←hLs,i1]
   have l2:L2 id'=L1 (id'.1,id'.2-n):=by rw[←hLs,i2]
   rw[l1]at v1 e
   rw[l2]at v2 e
   have:=g1.inj _ _ _ _ e1 e2 v1 v2 e
   rw[←i1,←i2,this]
  ·have i1:=idn id hn
   have l1:L2 id=L1 (id.1,id.2-n):=by rw[←hLs,i1]
   have l2:=hLo id' hn'
   rw[l1]at v1 e
   rw[l2]at v2 e
   have a1:=newb _ _ e1 v1
   have a2:=hok.blk_lt e2 v2
   omega
  ·have i2:=idn id' hn'
   have l2:L2 id'=L1 (id'.1,id'.2-n):=by rw[←hLs,i2]
   have l1:=hLo id hn
   rw[l1]at v1 e
   rw[l2]at v2 e
   have a1:=newb _ _ e2 v2
   have a2:=hok.blk_lt e1 v1
   omega
  ·rw[hLo id hn]at v1 e
   rw[hLo id' hn']at v2 e
   exact hok.inj _ _ _ _ e1 e2 v1 v2 e
 ·refine⟨fun id hid=>by unfold Ub at*;omega,hLo,g3.f,g3.size,fun b hb _=>g3.keep b hb (nb b),fun b k hb _=>g3.keepc b k hb (no b k),g3.shape,fun b k hb=>?_,fun b k hb=>?_,g3.os,g3.tape,g3.output,g3.drawn⟩
  ·rcases g3.fnew b k hb with h|h|h
   ·exact .inl h
   ·exact .inr (.inl h)
   ·exact absurd h (no b k)
  ·obtain⟨id,o,h1,h2,rfl,h4⟩:=hb
   rcases cas id o h1 with⟨o1,hn,e1,rfl⟩|⟨hn,e1⟩
   ·have i1:=idn id hn
    have l1:L2 id=L1 (id.1,id.2-n):=by rw[←hLs,i1]
    rw[l1]at h2 ⊢
    exact .inl (newb _ _ e1 h2)
   ·rw[hLo id hn]at h2 h4 ⊢
    exact .inr ⟨id,o,e1,h2,rfl,h4⟩
end
end Go.Abs
namespace Go.Abs
open Go
section
variable {P:Program} {G:Nat→List FD}
theorem zc0 {f:FuncId}{args:List D}{H:zas}{n:Nat}{R:D→zas→Nat→Prop}(hc:zam P f)(h:(∀id,n≤id.2→H id=none)→zav P G f args H n R):zav P G f args H n R:=by
 refine⟨hc,fun w L F vs hok hvs=>(h fun id hid=>?_).2 w L F vs hok hvs⟩
 cases ho:H id with
 |none=>rfl
 |some o=>have:=(hok.live id o ho).1;unfold Ub at this;omega
theorem zsW {N:Nat}{st:St}{l:List (Nat×D)}{H':zas}{n:Nat}(hf:zpN st.fr l)(hh:∀id o,H' id=some o→st.H id=some o)(hn:st.n≤n):zgh G N st ⟨frL l,H',n⟩:=zb9 hf hh hn
theorem zb3 {f:FuncId}{args:List D}{H:zas}{n:Nat}{R:D→zas→Nat→Prop}{d:D}(hc:zam P f)
  (h:(∀id,n≤id.2→H id=none)→zav P G f args H n (fun d' H' n'=>d'=d∧n≤n'∧∀id,id.2<n→H' id=H id))(hR:∀n',n≤n'→R d H n'):zav P G f args H n R:=by
 refine zc0 hc fun hfr=>zbt (h hfr) ?_
 rintro d' H' n' ⟨rfl,h1,h2⟩
 refine⟨d',H,n',zsW ?_ (fun id o ho=>?_) (Nat.le_refl _),hR n' h1⟩
 ·exact⟨rfl,trivial⟩
 ·rcases Nat.lt_or_ge id.2 n with h3|h3
  ·exact(h2 id h3).trans ho
  ·rw[hfr id h3]at ho;cases ho
end
theorem zmK {n:Nat}{f:zas}:∀{l:List (Id×Option O)},(∀p∈l,n≤p.1.2)→∀id,id.2<n→hpX l f id=f id
 |[],_,_,_=>rfl
 |(i,o)::l,h,id,hid=>by
  have h1:=h (i,o) (by simp)
  simp only[hpX]
  rw[if_neg (by rintro rfl;simp only at h1;omega)]
  exact zmK (fun p hp=>h p (by simp[hp])) id hid
end Go.Abs
