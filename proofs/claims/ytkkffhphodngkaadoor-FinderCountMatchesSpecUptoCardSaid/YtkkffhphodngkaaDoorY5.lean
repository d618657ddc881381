/- several texts of this proof in one; no conditions -/
import Derived.Test.YtkkffhphodngkaaDoorA3
set_option linter.unusedSimpArgs false
namespace Go.Abs
open Go
section
variable {P:Program} {G:Nat→List FD} {T:Tbl}
def sp0 {ρ:Type}[Enc ρ](f:ρ):List FD→Option (D×Prop)
 |[]=>some (.fz (enc f),True)
 |_=>none
@[go_sem] theorem zHy {ρ:Type}[Enc ρ]{f:ρ}:sp0 f []=some (.fz (enc f),True):=rfl
def sp4 {α β γ δ ρ:Type}[Enc α][Enc β][Enc γ][Enc δ][Enc ρ](f:α→β→γ→δ→ρ)(pre:α→β→γ→δ→Prop):List FD→Option (D×Prop)
 |[x,y,z,w]=>some (.fz (enc (f (dec x) (dec y) (dec z) (dec w))),x=enc (dec (α:=α) x)∧y=enc (dec (α:=β) y)∧z=enc (dec (α:=γ) z)∧w=enc (dec (α:=δ) w)∧pre (dec x) (dec y) (dec z) (dec w))
 |_=>none
@[go_sem] theorem zHz {α β γ δ ρ:Type}[Enc α][Enc β][Enc γ][Enc δ][Enc ρ]{f:α→β→γ→δ→ρ}{pre:α→β→γ→δ→Prop}{x y z w:FD}:sp4 f pre [x,y,z,w]=some (.fz (enc (f (dec x) (dec y) (dec z) (dec w))),x=enc (dec (α:=α) x)∧y=enc (dec (α:=β) y)∧z=enc (dec (α:=γ) z)∧w=enc (dec (α:=δ) w)∧pre (dec x) (dec y) (dec z) (dec w)):=rfl
def zxv {α β ρ σ:Type}[Enc α][Enc β][Enc ρ][Enc σ](f:α→β→ρ×σ)(pre:α→β→Prop):List FD→Option (D×Prop)
 |[x,y]=>some (.tup [.fz (enc (f (dec x) (dec y)).1),.fz (enc (f (dec x) (dec y)).2)],x=enc (dec (α:=α) x)∧y=enc (dec (α:=β) y)∧pre (dec x) (dec y))
 |_=>none
@[go_sem] theorem zFv {α β ρ σ:Type}[Enc α][Enc β][Enc ρ][Enc σ]{f:α→β→ρ×σ}{pre:α→β→Prop}{x y:FD}:zxv f pre [x,y]=some (.tup [.fz (enc (f (dec x) (dec y)).1),.fz (enc (f (dec x) (dec y)).2)],x=enc (dec (α:=α) x)∧y=enc (dec (α:=β) y)∧pre (dec x) (dec y)):=rfl
theorem zkH {α β ρ σ:Type}[Enc α][Enc β][Enc ρ][Enc σ]{f:FuncId}{g:α→β→ρ×σ}{pre:α→β→Prop}(hc:zam P f)(hT:zan P G T)
  (h:∀a b,pre a b→(enc a).Wf→(enc b).Wf→zay P G f [.fz (enc a),.fz (enc b)] (hpL []) 0 (fun d _ _=>D.val d=some (.tup [.fz (enc (g a b).1),.fz (enc (g a b).2)]))):zan P G (T.add f (zxv g pre)):=by
 refine zdL hT fun xs r c hx hcc=>?_
 unfold zxv at hx
 split at hx
 ·rename_i x y
  simp only[Option.some.injEq,Prod.mk.injEq]at hx
  obtain⟨rfl,rfl⟩:=hx
  obtain⟨e,e2,hp⟩:=hcc
  refine zeS hc fun hw=>?_
  rw[zhe]
  have:=h (dec x) (dec y) hp (by rw[←e];exact hw x (by simp)) (by rw[←e2];exact hw y (by simp))
  rw[←e,←e2]at this
  exact this
 ·cases hx
def zAG {α β γ ρ σ:Type}[Enc α][Enc β][Enc γ][Enc ρ][Enc σ](f:α→β→γ→ρ×σ)(pre:α→β→γ→Prop):List FD→Option (D×Prop)
 |[x,y,z]=>some (.tup [.fz (enc (f (dec x) (dec y) (dec z)).1),.fz (enc (f (dec x) (dec y) (dec z)).2)],x=enc (dec (α:=α) x)∧y=enc (dec (α:=β) y)∧z=enc (dec (α:=γ) z)∧pre (dec x) (dec y) (dec z))
 |_=>none
@[go_sem] theorem zFx {α β γ ρ σ:Type}[Enc α][Enc β][Enc γ][Enc ρ][Enc σ]{f:α→β→γ→ρ×σ}{pre:α→β→γ→Prop}{x y z:FD}:zAG f pre [x,y,z]=some (.tup [.fz (enc (f (dec x) (dec y) (dec z)).1),.fz (enc (f (dec x) (dec y) (dec z)).2)],x=enc (dec (α:=α) x)∧y=enc (dec (α:=β) y)∧z=enc (dec (α:=γ) z)∧pre (dec x) (dec y) (dec z)):=rfl
theorem zsO {α β γ ρ σ:Type}[Enc α][Enc β][Enc γ][Enc ρ][Enc σ]{f:FuncId}{g:α→β→γ→ρ×σ}{pre:α→β→γ→Prop}(hc:zam P f)(hT:zan P G T)
  (h:∀a b c,pre a b c→(enc a).Wf→(enc b).Wf→(enc c).Wf→zay P G f [.fz (enc a),.fz (enc b),.fz (enc c)] (hpL []) 0 (fun d _ _=>D.val d=some (.tup [.fz (enc (g a b c).1),.fz (enc (g a b c).2)]))):zan P G (T.add f (zAG g pre)):=by
 refine zdL hT fun xs r c hx hcc=>?_
 unfold zAG at hx
 split at hx
 ·rename_i x y z
  simp only[Option.some.injEq,Prod.mk.injEq]at hx
  obtain⟨rfl,rfl⟩:=hx
  obtain⟨e,e2,e3,hp⟩:=hcc
  refine zeS hc fun hw=>?_
  rw[zhe]
  have:=h (dec x) (dec y) (dec z) hp (by rw[←e];exact hw x (by simp)) (by rw[←e2];exact hw y (by simp)) (by rw[←e3];exact hw z (by simp))
  rw[←e,←e2,←e3]at this
  exact this
 ·cases hx
end
def orI (n m:Int):Int:=IntKind.wrap .i64 (BitVec.ofInt 64 n|||BitVec.ofInt 64 m).toNat
def zAU (n m:Int):Int:=IntKind.wrap .i64 (BitVec.ofInt 64 n&&& BitVec.ofInt 64 m).toNat
@[go_sem] theorem zFd {n m:Int}:zds .or .i64 .i64 n m=some (.fz (.i .i64 (orI n m)),True):=by
 simp only[zds,orI,eq_self];rfl
@[go_sem] theorem zDi {n m:Int}:zds .and .i64 .i64 n m=some (.fz (.i .i64 (zAU n m)),True):=by
 simp only[zds,zAU,eq_self];rfl
class Kc (α:Type)[Enc α](k:outParam Nat):Prop where
 len:∀a:α,(enc a).cells.length=k
theorem zdF {α:Type}[Enc α]{k:Nat}[Kc α k](l:List α):zbs (l.map enc) k:=zeg (f:=enc) (k:=k) Kc.len l
theorem zni {α:Type}[Enc α]{k:Nat}[Kc α k](l:List α):(zae (l.map enc)).length=l.length*k:=by
 rw[za3 (za8 (zdF l)),List.length_map]
@[go_sem] theorem zHQ {n n':Nat}{pre:Id→Id}{vn:Id→Bool}{z:Id→Option (List FD)}{H:zau}{ds ds':List D}:Dr n n' pre vn z H (.agg ds) (.agg ds')=Drs n n' pre vn z H ds ds':=by
 simp only[Dr,D.agg.injEq,eq_iff_iff]
 exact⟨fun⟨_,h1,h2⟩=>h1▸h2,fun h=>⟨_,rfl,h⟩⟩
end Go.Abs
namespace Go.Abs
open Go
mutual
inductive Tr where
 |leaf
 |node (l:Trs)
inductive Trs where
 |nil
 |cons (i:Nat) (t:Tr) (l:Trs)
end
mutual
def zJi (ops:Array Oper):Tr→Array Bool→Bool
 | .leaf,listed=>(Region.ready .any ops listed).isEmpty
 | .node l,listed=> !(Region.ready .any ops listed).isEmpty&&zAM ops l listed (Region.ready .any ops listed)
def zAM (ops:Array Oper):Trs→Array Bool→List Nat→Bool
 | .nil,_,r=>r.isEmpty
 | .cons i t l,listed,r=>(match r with
   |j::r'=>(i==j)&&zJi ops t (listed.setIfInBounds i true)&&zAM ops l listed r'
   |[]=>false)
end
mutual
def zAK:Tr→Nat
 | .leaf=>0
 | .node l=>zs6 l+1
def zs6:Trs→Nat
 | .nil=>0
 | .cons _ t l=>max (zAK t) (zs6 l)
end
section
variable (P:Program) (G:Nat→List FD) (T:Tbl) (N tag0:Nat) (am:Nat→Bool) (ops:Array Oper)
def zmo (o:Option Oper)(k:St→Prop)(st:St):Prop:=Bi o fun o=>Bi (zmH ops st.fr o.guard) fun b=>zdK b (XO P G T N tag0 am st k o.dst o.op) (Chk (za7 N o.dst) (k (st.put o.dst (.tup []))))
mutual
def zCe:Tr→(St→Prop)→St→Prop
 | .leaf,K,st=>K st
 | .node l,K,st=>zsV l K st
def zsV:Trs→(St→Prop)→St→Prop
 | .nil,_,_=>True
 | .cons i t l,K,st=>zmo P G T N tag0 am ops ops[i]? (zCe t K) st∧zsV l K st
end
end
section
variable {P:Program} {G:Nat→List FD} {T:Tbl} {N tag0:Nat} {am:Nat→Bool} {ops:Array Oper} {K:St→Prop}
end
def zeQ (P:Program)(G:Nat→List FD)(T:Tbl)(N tag0:Nat)(am:Nat→Bool)(ops:Array Oper)(o:Option Oper)(st:St)[k:Kn St]:Prop:=zmo P G T N tag0 am ops o k.run st
def zqB (P:Program)(G:Nat→List FD)(T:Tbl)(N tag0:Nat)(am:Nat→Bool)(ops:Array Oper)(t:Tr)(st:St)[k:Kn St]:Prop:=zCe P G T N tag0 am ops t k.run st
def zg6 (P:Program)(G:Nat→List FD)(T:Tbl)(N tag0:Nat)(am:Nat→Bool)(ops:Array Oper)(t:Trs)(st:St)[k:Kn St]:Prop:=zsV P G T N tag0 am ops t k.run st
section
variable {P:Program} {G:Nat→List FD} {T:Tbl} {N tag0:Nat} {am:Nat→Bool} {ops:Array Oper} {st:St} {k:St→Prop} {t:Tr} {l:Trs} {i:Nat} {o:Oper}
@[go_sem] theorem zzZ:@zqB P G T N tag0 am ops .leaf st ⟨k⟩=k st:=by unfold zqB;rw[zCe];rfl
@[go_sem] theorem zz0:@zqB P G T N tag0 am ops (.node l) st ⟨k⟩=@zg6 P G T N tag0 am ops l st ⟨k⟩:=by unfold zqB zg6;rw[zCe]
@[go_sem] theorem zz1:@zg6 P G T N tag0 am ops .nil st ⟨k⟩=True:=by unfold zg6;rw[zsV]
@[go_sem] theorem zyq:@zg6 P G T N tag0 am ops (.cons i t l) st ⟨k⟩=(@zeQ P G T N tag0 am ops ops[i]? st ⟨fun st=>@zqB P G T N tag0 am ops t st ⟨k⟩⟩∧@zg6 P G T N tag0 am ops l st ⟨k⟩):=by
 unfold zg6 zeQ;rw[zsV];rfl
@[go_sem] theorem zDU:@zeQ P G T N tag0 am ops (some o) st ⟨k⟩=@BiK _ (zmH ops st.fr o.guard) ⟨fun b=>@za0 b ⟨@XOK P G T N tag0 am st o.dst o.op ⟨k⟩⟩ ⟨@zhD (za7 N o.dst) ⟨k (st.put o.dst (.tup []))⟩⟩⟩:=by
 unfold zeQ zmo BiK za0 XOK zhD;rfl
end
attribute [irreducible] zeQ zqB zg6
end Go.Abs
namespace Go.Abs
open Go Go.Deep
def CR (w:World)(cs:List Value)(ys:List FD):Prop:=cs.length=ys.length∧∀j,j<cs.length→zbh w (zi1 w) (cs.getD j undef) (ys.getD j .nilf)
theorem CR.nil {w:World}:CR w [] []:=⟨rfl,fun j hj=>by simp at hj⟩
theorem CR.app {w:World}{cs ds:List Value}{xs ys:List FD}(h1:CR w cs xs)(h2:CR w ds ys):CR w (cs++ds) (xs++ys):=by
 refine⟨by rw[List.length_append,List.length_append,h1.1,h2.1],fun j hj=>?_⟩
 rw[List.length_append]at hj
 by_cases hj1:j<cs.length
 ·rw[List.getD_eq_getElem?_getD,List.getElem?_append_left hj1,List.getD_eq_getElem?_getD,List.getElem?_append_left (by rw[←h1.1];exact hj1)]
  have:=h1.2 j hj1
  rwa [List.getD_eq_getElem?_getD,List.getD_eq_getElem?_getD]at this
 ·rw[List.getD_eq_getElem?_getD,List.getElem?_append_right (by omega),List.getD_eq_getElem?_getD,List.getElem?_append_right (by rw[←h1.1];omega),←h1.1]
  have:=h2.2 (j-cs.length) (by omega)
  rwa [List.getD_eq_getElem?_getD,List.getD_eq_getElem?_getD]at this
theorem CR.one {w:World}{v:Value}{y:FD}(h:zbh w (zi1 w) v y):CR w [v] [y]:=⟨rfl,fun j hj=>by
 obtain rfl:j=0:=by simp at hj;omega
 exact h⟩
theorem CR.one_inv {w:World}{v:Value}{y:FD}(h:CR w [v] [y]):zbh w (zi1 w) v y:=h.2 0 (by simp)
theorem CR.agg {w:World}{cs:Array Value}{ys:List FD}(h:CR w cs.toList ys):zbh w (zi1 w) (.agg cs) (.agg ys):=by
 have:=zbh.agg (w:=w) (F:=zi1 w) cs.toList ys h.1 (fun j hj=>h.2 j (by rw[h.1];exact hj))
 simpa using this
theorem CR.part {w:World}{cs:List Value}{o s:Nat}{xs ys:List FD}(h1:CR w ((cs.drop o).take s) xs)(h2:CR w (cs.drop (o+s)) ys):CR w (cs.drop o) (xs++ys):=by
 have:=h1.app h2
 rwa [←List.drop_drop,List.take_append_drop]at this
theorem CR.fin {w:World}{cs:List Value}{o:Nat}(h:cs.length=o):CR w (cs.drop o) []:=by
 rw[List.drop_of_length_le (by omega)];exact .nil
def RdN (n:Nat)(blk:(H:Type)→DataW H→Nat)(P:Program)(t:TypeId)(α:Type)[Enc α]:Prop:=
 ∀{H:Type} {en:TypeId×Value→H} {w:World} {base:Nat} {spare:Nat→Bool} {held:Bool} {fuel:Nat} {cs:List Value} {x:DataW H×List MemPlace},
  DataW.trod en P w base spare held fuel t cs=some x→SizeOf.sizeOf x.1<n→blk H x.1≤1048576→∃a:α,CR w cs (enc a).cells
section
variable {n:Nat} {blk:(H:Type)→DataW H→Nat} {P:Program} {t e:TypeId}
theorem RdN.of {α:Type}[Enc α](h:Rd blk P t α):RdN n blk P t α:=fun h1 _ h2=>h h1 h2
theorem RdN.to {α:Type}[Enc α](h:∀n,RdN n blk P t α):Rd blk P t α:=fun h1 h2=>h _ h1 (Nat.lt_succ_self _) h2
theorem ziv (hB:zkP blk){α:Type}[Enc α](ht:P.underlying t=some (.slice e))(hes:0<P.cellsOf e)(hr:RdN n blk P e α):RdN n blk P t (List α):=by
 intro H en w base spare held fuel cs x h hsz hbk
 rcases open_slice ht h with⟨rfl,_⟩|⟨a,len,cap,m,k,D,Pl,rfl,hb,hl,hm,hme,rfl,hel⟩
 ·exact⟨[],.one (.sl0 none 0)⟩
 ·have hlm:len≤m:=by rw[hme];split<;>omega
  have each:∀i,i<len→∃b:α,(enc b).cells.length=P.cellsOf e∧∀j,j<P.cellsOf e→∃v,w.cell? ((a.add (i*P.cellsOf e)).add j)=some v∧zbh w (zi1 w) v ((enc b).cells.getD j .nilf):=fun i hi=>by
   obtain⟨cs',h1,h2⟩:=hel i (by omega)
   obtain⟨g1,g2⟩:=cells?_get h1
   have hmem:D i∈(List.range len).map D:=List.mem_map.2 ⟨i,List.mem_range.2 hi,rfl⟩
   have hlt:SizeOf.sizeOf (D i)<n:=by
    have q1:=List.sizeOf_lt_of_mem hmem
    simp only[DataW.slice.sizeOf_spec]at hsz
    omega
   obtain⟨b,b1,b2⟩:=hr h2 hlt (Nat.le_trans (hB.el _ _ _ _ hmem) hbk)
   exact⟨b,by rw[←b1,g1],fun j hj=>⟨_,g2 j hj,b2 j (by rw[g1];exact hj)⟩⟩
  obtain⟨l,l1,l2⟩:=zig len each
  refine⟨l,.one ?_⟩
  have hmax:len≤zba:=by
   have:=Nat.le_trans (hB.sl _ _ _) hbk
   simp only[List.length_map,List.length_range]at this
   unfold zba;omega
  have hxl:(l.map enc).length=len:=by simp[l1]
  show zbh w (zi1 w) (.slice (some a) len cap) (.sl (l.map enc))
  rcases Nat.eq_zero_or_pos len with h0|h0
  ·have:l=[]:=List.eq_nil_of_length_eq_zero (by omega)
   subst this
   rw[h0]
   exact .sl0 _ _
  ·have gd:∀i (hi:i<len),(l.map enc).getD i .nilf=enc (l[i]'(by omega)):=fun i hi=>by
    simp[List.getD_eq_getElem?_getD,show i<l.length by omega]
   obtain⟨v0,hv0,_⟩:=(l2 0 (by omega)).2 0 hes
   rw[Nat.zero_mul]at hv0
   have ha0:(a.add 0).add 0=a:=by simp[Addr.add]
   rw[ha0]at hv0
   obtain⟨hsp,cs,T,fr,hcs,_⟩:=cell?_some hv0
   have hlt:a.block<w.heap.size:=by
    rcases Nat.lt_or_ge a.block w.heap.size with h|h
    ·exact h
    ·rw[Array.getElem?_eq_none h]at hcs;cases hcs
   have ea:a=⟨a.block,a.off,none⟩:=by cases a;simp at hsp;subst hsp;rfl
   have key:∀i j,i<len→j<P.cellsOf e→∃v,cs[a.off+i*P.cellsOf e+j]?=some v∧zbh w (zi1 w) v (((l.map enc).getD i .nilf).cells.getD j .nilf):=fun i j hi hj=>by
    obtain⟨v,h1,h2⟩:=(l2 i (by omega)).2 j hj
    rw[ea,zbE,zbE,zgr hcs]at h1
    exact⟨v,h1,by rw[gd i hi];exact h2⟩
   rw[ea,←hxl]
   refine zbh.sl a.block a.off cap (P.cellsOf e) _ (fun i j=>cs.getD (a.off+i*P.cellsOf e+j) undef) (by omega) (by omega) (fun _ _=>hlt) (fun i hi=>?_) (fun i j hi hj=>?_) (fun i j hi hj=>?_)
   ·rw[gd i (by omega)];exact(l2 i (by omega)).1
   ·obtain⟨v,h1,_⟩:=key i j (by omega) hj
    rw[zgp hcs]
    simp[Array.getD_eq_getD_getElem?,h1]
   ·obtain⟨v,h1,h2⟩:=key i j (by omega) hj
    simpa[Array.getD_eq_getD_getElem?,h1]using h2
theorem zsu {k:IntKind}(hk:k= .i64)(ht:P.underlying t=some (.int k)):RdN n blk P t Int:=by
 subst hk
 intro H en w base spare held fuel cs x h _ _
 obtain⟨m,rfl,_,hw⟩:=DataW.trod_int ht h
 have hb:IntKind.min .i64≤m∧m≤IntKind.max .i64:=by simpa[Lit.wf]using hw
 exact⟨m,.one (.i .i64 m hb.1 hb.2)⟩
theorem znJ {H:Type}{en:TypeId×Value→H}{w:World}{base:Nat}{spare:Nat→Bool}{held:Bool}{fuel:Nat}{cs:List Value}{x:DataW H×List MemPlace}{fs:Array Field}(ht:P.underlying t=some (.struct fs))
  (h:DataW.trod en P w base spare held fuel t cs=some x):cs.length=P.cellsOf t∧∃ps k,x.1= .agg ps∧∀f∈fs.toList,∃y,DataW.trod en P w base spare held k f.type ((cs.drop f.offset).take (P.cellsOf f.type))=some y∧y.1∈ps:=by
 cases fuel with
 |zero=>simp[DataW.trod]at h
 |succ fuel=>
  simp only[DataW.trod,ht]at h
  split at h
  case isFalse=>cases h
  rename_i hlen
  refine⟨hlen,?_⟩
  simp only[Option.map_eq_some_iff]at h
  obtain⟨xs,h1,rfl⟩:=h
  refine⟨_,fuel,rfl,?_⟩
  generalize fs.toList=l at h1 ⊢
  clear hlen ht
  induction l generalizing xs with
  |nil=>intro f hf;simp at hf
  |cons g l ih=>
   simp only[List.mapM_cons,Option.bind_eq_bind,Option.bind_eq_some_iff,Option.pure_def,Option.some.injEq]at h1
   obtain⟨y,hy,ys,hys,rfl⟩:=h1
   intro f hf
   rcases List.mem_cons.1 hf with rfl|hf
   ·exact⟨y,hy,by simp⟩
   ·obtain⟨z,hz1,hz2⟩:=ih _ hys f hf
    exact⟨z,hz1,by simp only[List.map_cons,List.mem_cons];exact .inr hz2⟩
theorem zst (hB:zkP blk){H:Type}{en:TypeId×Value→H}{w:World}{base:Nat}{spare:Nat→Bool}{held:Bool}{k:Nat}{cs:List Value}{ps:List (DataW H)}{f:Field}{α:Type}[Enc α]
  (h:∃y,DataW.trod en P w base spare held k f.type ((cs.drop f.offset).take (P.cellsOf f.type))=some y∧y.1∈ps)(hr:RdN n blk P f.type α)(hsz:SizeOf.sizeOf (DataW.agg ps)<n+1)(hb:blk H (.agg ps)≤1048576):
  ∃a:α,CR w ((cs.drop f.offset).take (P.cellsOf f.type)) (enc a).cells:=by
 obtain⟨y,h1,h2⟩:=h
 have q1:=List.sizeOf_lt_of_mem h2
 simp only[DataW.agg.sizeOf_spec]at hsz
 exact hr h1 (by omega) (Nat.le_trans (hB.ag _ _ _ h2) hb)
end
end Go.Abs
namespace Go.Abs
open Go Go.Deep
theorem zkw {n:Nat}{blk:(H:Type)→DataW H→Nat}(hB:zkP blk){P:Program}{H:Type}{en:TypeId×Value→H}{w:World}{base:Nat}{spare:Nat→Bool}{held:Bool}{k:Nat}{cs:List Value}{ps:List (DataW H)}{fs:Array Field}{α:Type}[Enc α]
  (hf:∀f∈fs.toList,∃y,DataW.trod en P w base spare held k f.type ((cs.drop f.offset).take (P.cellsOf f.type))=some y∧y.1∈ps)(i:Nat){f:Field}(hi:fs[i]?=some f){o s:Nat}(ho:f.offset=o){ty:TypeId}(hty:f.type=ty)(hs:P.cellsOf ty=s)
  (hr:RdN n blk P ty α)(hsz:SizeOf.sizeOf (DataW.agg ps)<n+1)(hb:blk H (.agg ps)≤1048576):∃a:α,CR w ((cs.drop o).take s) (enc a).cells:=by
 have hm:f∈fs.toList:=by
  rw[←Array.getElem?_toList]at hi
  exact List.mem_of_getElem? hi
 have:=zst hB (hf f hm) (hty▸hr) hsz hb
 rwa [ho,hty,hs]at this
end Go.Abs
