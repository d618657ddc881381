import Derived.Sort.Grow
import Derived.Sort.EncStr
import Derived.Lib.SlicesCompact
import Derived.Lib.ItoaNum
import Derived.Lib.LaidTab
import Derived.Deep.Draws
import Derived.Test.YtnijhilfchekkaaGreatDoorA3
set_option linter.unusedSimpArgs false
namespace Go.Abs
open Go
section
variable {P:Program} {G:Nat→List FD} {T:Tbl}
def sp0 {ρ:Type}[Enc ρ](f:ρ):List FD→Option (D×Prop)
 |[]=>some (.fz (enc f),True)
 |_=>none
@[go_sem] theorem zRF {ρ:Type}[Enc ρ]{f:ρ}:sp0 f []=some (.fz (enc f),True):=rfl
theorem S6 {ρ:Type}[Enc ρ]{f:FuncId}{g:ρ}(hT:b9 P G T)
  (h:cS P G f [] (hpL []) 0 (fun d _ _=>D.val d=some (.fz (enc g)))):b9 P G (T.add f (sp0 g)):=by
 grind[pS,sp0,ky]
def sp4 {α β γ δ ρ:Type}[Enc α][Enc β][Enc γ][Enc δ][Enc ρ](f:α→β→γ→δ→ρ)(pre:α→β→γ→δ→Prop):List FD→Option (D×Prop)
 |[x,y,z,w]=>some (.fz (enc (f (dec x) (dec y) (dec z) (dec w))),x=enc (dec (α:=α) x)∧y=enc (dec (α:=β) y)∧z=enc (dec (α:=γ) z)∧w=enc (dec (α:=δ) w)∧pre (dec x) (dec y) (dec z) (dec w))
 |_=>none
@[go_sem] theorem zRG {α β γ δ ρ:Type}[Enc α][Enc β][Enc γ][Enc δ][Enc ρ]{f:α→β→γ→δ→ρ}{pre:α→β→γ→δ→Prop}{x y z w:FD}:sp4 f pre [x,y,z,w]=some (.fz (enc (f (dec x) (dec y) (dec z) (dec w))),x=enc (dec (α:=α) x)∧y=enc (dec (α:=β) y)∧z=enc (dec (α:=γ) z)∧w=enc (dec (α:=δ) w)∧pre (dec x) (dec y) (dec z) (dec w)):=rfl
theorem S7 {α β γ δ ρ:Type}[Enc α][Enc β][Enc γ][Enc δ][Enc ρ]{f:FuncId}{g:α→β→γ→δ→ρ}{pre:α→β→γ→δ→Prop}(hc:cW P f)(hT:b9 P G T)
  (h:∀a b c d,pre a b c d→(enc a).Wf→(enc b).Wf→(enc c).Wf→(enc d).Wf→cS P G f [.fz (enc a),.fz (enc b),.fz (enc c),.fz (enc d)] (hpL []) 0 (fun r _ _=>D.val r=some (.fz (enc (g a b c d))))):b9 P G (T.add f (sp4 g pre)):=by
 refine pS hT fun xs r c hx hcc=>?_;unfold sp4 at hx;grind[qx,ky]
def sZ {α β ρ σ:Type}[Enc α][Enc β][Enc ρ][Enc σ](f:α→β→ρ×σ)(pre:α→β→Prop):List FD→Option (D×Prop)
 |[x,y]=>some (.tup [.fz (enc (f (dec x) (dec y)).1),.fz (enc (f (dec x) (dec y)).2)],x=enc (dec (α:=α) x)∧y=enc (dec (α:=β) y)∧pre (dec x) (dec y))
 |_=>none
@[go_sem] theorem zPm {α β ρ σ:Type}[Enc α][Enc β][Enc ρ][Enc σ]{f:α→β→ρ×σ}{pre:α→β→Prop}{x y:FD}:sZ f pre [x,y]=some (.tup [.fz (enc (f (dec x) (dec y)).1),.fz (enc (f (dec x) (dec y)).2)],x=enc (dec (α:=α) x)∧y=enc (dec (α:=β) y)∧pre (dec x) (dec y)):=rfl
theorem zH {α β ρ σ:Type}[Enc α][Enc β][Enc ρ][Enc σ]{f:FuncId}{g:α→β→ρ×σ}{pre:α→β→Prop}(hc:cW P f)(hT:b9 P G T)
  (h:∀a b,pre a b→(enc a).Wf→(enc b).Wf→cS P G f [.fz (enc a),.fz (enc b)] (hpL []) 0 (fun d _ _=>D.val d=some (.tup [.fz (enc (g a b).1),.fz (enc (g a b).2)]))):b9 P G (T.add f (sZ g pre)):=by
 refine pS hT fun xs r c hx hcc=>?_;unfold sZ at hx;grind[qx,ky]
def uv {α β γ ρ σ:Type}[Enc α][Enc β][Enc γ][Enc ρ][Enc σ](f:α→β→γ→ρ×σ)(pre:α→β→γ→Prop):List FD→Option (D×Prop)
 |[x,y,z]=>some (.tup [.fz (enc (f (dec x) (dec y) (dec z)).1),.fz (enc (f (dec x) (dec y) (dec z)).2)],x=enc (dec (α:=α) x)∧y=enc (dec (α:=β) y)∧z=enc (dec (α:=γ) z)∧pre (dec x) (dec y) (dec z))
 |_=>none
@[go_sem] theorem zPo {α β γ ρ σ:Type}[Enc α][Enc β][Enc γ][Enc ρ][Enc σ]{f:α→β→γ→ρ×σ}{pre:α→β→γ→Prop}{x y z:FD}:uv f pre [x,y,z]=some (.tup [.fz (enc (f (dec x) (dec y) (dec z)).1),.fz (enc (f (dec x) (dec y) (dec z)).2)],x=enc (dec (α:=α) x)∧y=enc (dec (α:=β) y)∧z=enc (dec (α:=γ) z)∧pre (dec x) (dec y) (dec z)):=rfl
theorem DI {α β γ ρ σ:Type}[Enc α][Enc β][Enc γ][Enc ρ][Enc σ]{f:FuncId}{g:α→β→γ→ρ×σ}{pre:α→β→γ→Prop}(hc:cW P f)(hT:b9 P G T)
  (h:∀a b c,pre a b c→(enc a).Wf→(enc b).Wf→(enc c).Wf→cS P G f [.fz (enc a),.fz (enc b),.fz (enc c)] (hpL []) 0 (fun d _ _=>D.val d=some (.tup [.fz (enc (g a b c).1),.fz (enc (g a b c).2)]))):b9 P G (T.add f (uv g pre)):=by
 refine pS hT fun xs r c hx hcc=>?_;unfold uv at hx;grind[qx,ky]
end
def orI (n m:Int):Int:=IntKind.wrap .i64 (BitVec.ofInt 64 n|||BitVec.ofInt 64 m).toNat
def x6 (n m:Int):Int:=IntKind.wrap .i64 (BitVec.ofInt 64 n&&& BitVec.ofInt 64 m).toNat
@[go_sem] theorem zO3 {n m:Int}:ly .or .i64 .i64 n m=some (.fz (.i .i64 (orI n m)),True):=by simp only[ly,orI,eq_self];rfl
@[go_sem] theorem zMU {n m:Int}:ly .and .i64 .i64 n m=some (.fz (.i .i64 (x6 n m)),True):=by simp only[ly,x6,eq_self];rfl
class Kc (α:Type)[Enc α](k:outParam Nat):Prop where
 len:∀a:α,(enc a).cells.length=k
theorem qA {α:Type}[Enc α]{k:Nat}[Kc α k](l:List α):dP (l.map enc) k:=tt (f:=enc) (k:=k) Kc.len l
theorem yq {α:Type}[Enc α]{k:Nat}[Kc α k](l:List α):(bA (l.map enc)).length=l.length*k:=by rw[mw (jJ (qA l)),aG]
@[go_sem] theorem zR1 {n n':Nat}{pre:Id→Id}{vn:Id→Bool}{z:Id→Option (List FD)}{H:bR}{ds ds':List D}:Dr n n' pre vn z H (.agg ds) (.agg ds')=Drs n n' pre vn z H ds ds':=by simp_all[Dr]
mutual
inductive Tr where
 |leaf
 |node (l:Trs)
inductive Trs where
 |nil
 |cons (i:Nat) (t:Tr) (l:Trs)
end
mutual
def VC (ops:Array Oper):Tr→Array Bool→Bool
 | .leaf,listed=>(Region.ready .any ops listed).isEmpty
 | .node l,listed=> !(Region.ready .any ops listed).isEmpty&&FF ops l listed (Region.ready .any ops listed)
def FF (ops:Array Oper):Trs→Array Bool→List Nat→Bool
 | .nil,_,r=>r.isEmpty
 | .cons i t l,listed,r=>(match r with
   |j::r'=>(i==j)&&VC ops t (listed.setIfInBounds i true)&&FF ops l listed r'
   |[]=>false)
end
mutual
def SQ:Tr→Nat
 | .leaf=>0
 | .node l=>Eo l+1
def Eo:Trs→Nat
 | .nil=>0
 | .cons _ t l=>max (SQ t) (Eo l)
end
section
variable (P:Program) (G:Nat→List FD) (T:Tbl) (N tag0:Nat) (am:Nat→Bool) (ops:Array Oper)
def sM (o:Option Oper)(k:St→Prop)(st:St):Prop:=Bi o fun o=>Bi (nC ops st.fr o.guard) fun b=>mA b (XO P G T N tag0 am st k o.dst o.op) (Chk (fI N o.dst) (k (st.put o.dst (.tup []))))
mutual
def AO:Tr→(St→Prop)→St→Prop
 | .leaf,K,st=>K st
 | .node l,K,st=>Ao l K st
def Ao:Trs→(St→Prop)→St→Prop
 | .nil,_,_=>True
 | .cons i t l,K,st=>sM P G T N tag0 am ops ops[i]? (AO t K) st∧Ao l K st
end
end
section
variable {P:Program} {G:Nat→List FD} {T:Tbl} {N tag0:Nat} {am:Nat→Bool} {ops:Array Oper} {K:St→Prop}
end
def qE (P:Program)(G:Nat→List FD)(T:Tbl)(N tag0:Nat)(am:Nat→Bool)(ops:Array Oper)(o:Option Oper)(st:St)[k:Kn St]:Prop:=sM P G T N tag0 am ops o k.run st
def DU (P:Program)(G:Nat→List FD)(T:Tbl)(N tag0:Nat)(am:Nat→Bool)(ops:Array Oper)(t:Tr)(st:St)[k:Kn St]:Prop:=AO P G T N tag0 am ops t k.run st
def BR (P:Program)(G:Nat→List FD)(T:Tbl)(N tag0:Nat)(am:Nat→Bool)(ops:Array Oper)(t:Trs)(st:St)[k:Kn St]:Prop:=Ao P G T N tag0 am ops t k.run st
section
variable {P:Program} {G:Nat→List FD} {T:Tbl} {N tag0:Nat} {am:Nat→Bool} {ops:Array Oper} {st:St} {k:St→Prop} {t:Tr} {l:Trs} {i:Nat} {o:Oper}
@[go_sem] theorem zIM:@DU P G T N tag0 am ops .leaf st ⟨k⟩=k st:=by unfold DU;rw[AO];rfl
@[go_sem] theorem zHa:@BR P G T N tag0 am ops (.cons i t l) st ⟨k⟩=(@qE P G T N tag0 am ops ops[i]? st ⟨fun st=>@DU P G T N tag0 am ops t st ⟨k⟩⟩∧@BR P G T N tag0 am ops l st ⟨k⟩):=by unfold BR qE;rw[Ao];rfl
@[go_sem] theorem zNv:@qE P G T N tag0 am ops (some o) st ⟨k⟩=@BiK _ (nC ops st.fr o.guard) ⟨fun b=>@gG b ⟨@XOK P G T N tag0 am st o.dst o.op ⟨k⟩⟩ ⟨@mD (fI N o.dst) ⟨k (st.put o.dst (.tup []))⟩⟩⟩:=by unfold qE sM BiK gG XOK mD;rfl
end
attribute [irreducible] qE DU BR
open Go Go.Deep
def CR (w:World)(cs:List Value)(ys:List FD):Prop:=cs.length=ys.length∧∀j,j<cs.length→dD w (l5 w) (cs.getD j undef) (ys.getD j .nilf)
theorem CR.nil {w:World}:CR w [] []:=⟨rfl,ap⟩
theorem CR.app {w:World}{cs ds:List Value}{xs ys:List FD}(h1:CR w cs xs)(h2:CR w ds ys):CR w (cs++ds) (xs++ys):=by
 refine⟨by rw[aD,aD,h1.1,h2.1],fun j hj=>?_⟩;rw[aD]at hj;by_cases hj1:j<cs.length
 ·rw[av,dh hj1,av,dh (by rw[←h1.1];omega)];have:=h1.2 j hj1;grind
 ·rw[av,ce ae,av,ce (by rw[←h1.1];omega),←h1.1];have:=h2.2 (j-cs.length) ae;grind
theorem CR.one {w:World}{v:Value}{y:FD}(h:dD w (l5 w) v y):CR w [v] [y]:=⟨rfl,ap⟩
theorem CR.one_inv {w:World}{v:Value}{y:FD}(h:CR w [v] [y]):dD w (l5 w) v y:=h.2 0 ak
theorem CR.agg {w:World}{cs:Array Value}{ys:List FD}(h:CR w cs.toList ys):dD w (l5 w) (.agg cs) (.agg ys):=by have:=dD.agg (w:=w) (F:=l5 w) cs.toList ys h.1 (fun j hj=>h.2 j (by rw[h.1];exact hj));omega
theorem CR.part {w:World}{cs:List Value}{o s:Nat}{xs ys:List FD}(h1:CR w ((cs.drop o).take s) xs)(h2:CR w (cs.drop (o+s)) ys):CR w (cs.drop o) (xs++ys):=by have:=h1.app h2;grind[List.drop_drop,List.take_append_drop]
theorem CR.fin {w:World}{cs:List Value}{o:Nat}(h:cs.length=o):CR w (cs.drop o) []:=by rw[de ae];exact .nil
def RdN (n:Nat)(blk:(H:Type)→DataW H→Nat)(P:Program)(t:TypeId)(α:Type)[Enc α]:Prop:=
 ∀{H:Type} {en:TypeId×Value→H} {w:World} {base:Nat} {spare:Nat→Bool} {held:Bool} {fuel:Nat} {cs:List Value} {x:DataW H×List MemPlace},
  DataW.trod en P w base spare held fuel t cs=some x→SizeOf.sizeOf x.1<n→blk H x.1≤1048576→∃a:α,CR w cs (enc a).cells
section
variable {n:Nat} {blk:(H:Type)→DataW H→Nat} {P:Program} {t e:TypeId}
theorem RdN.of {α:Type}[Enc α](h:Rd blk P t α):RdN n blk P t α:=fun h1 _ h2=>h h1 h2
theorem RdN.to {α:Type}[Enc α](h:∀n,RdN n blk P t α):Rd blk P t α:=fun h1 h2=>h _ h1 (gq _) h2
theorem Ch (hB:xq blk){α:Type}[Enc α](ht:P.underlying t=some (.slice e))(hes:0<P.cellsOf e)(hr:RdN n blk P e α):RdN n blk P t (List α):=by
 intro H en w base spare held fuel cs x h hsz hbk;rcases open_slice ht h with⟨rfl,_⟩|⟨a,len,cap,m,k,D,Pl,rfl,hb,hl,hm,hme,rfl,hel⟩
 ·exact⟨[],.one (.sl0 none 0)⟩
 ·have hlm:len≤m:=by rw[hme];split<;>omega
  have each:∀i,i<len→∃b:α,(enc b).cells.length=P.cellsOf e∧∀j,j<P.cellsOf e→∃v,w.cell? ((a.add (i*P.cellsOf e)).add j)=some v∧dD w (l5 w) v ((enc b).cells.getD j .nilf):=fun i hi=>by
   obtain⟨cs',h1,h2⟩:=hel i ae;obtain⟨g1,g2⟩:=cells?_get h1;have hmem:D i∈(List.range len).map D:=ap
   have hlt:SizeOf.sizeOf (D i)<n:=by have q1:=List.sizeOf_lt_of_mem hmem;simp only[DataW.slice.sizeOf_spec]at hsz;omega
   obtain⟨b,b1,b2⟩:=hr h2 hlt (bz (hB.el _ _ _ _ hmem) hbk);grind
  obtain⟨l,l1,l2⟩:=IL len each;refine⟨l,.one ?_⟩;have hmax:len≤dt:=by have:=bz (hB.sl _ _ _) hbk;simp only[aG,mJ]at this;unfold dt;omega
  have hxl:(l.map enc).length=len:=by simp[l1]
  show dD w (l5 w) (.slice (some a) len cap) (.sl (l.map enc));rcases cj len with h0|h0
  ·have:l=[]:=ap
   subst this;rw[h0];exact .sl0 _ _
  ·have gd:∀i (hi:i<len),(l.map enc).getD i .nilf=enc (l[i]' ae):=fun i hi=>ap
   obtain⟨v0,hv0,_⟩:=(l2 0 ae).2 0 hes;rw[Nat.zero_mul]at hv0;have ha0:(a.add 0).add 0=a:=by simp[Addr.add]
   rw[ha0]at hv0;obtain⟨hsp,cs,T,fr,hcs,_⟩:=cell?_some hv0;have hlt:a.block<w.heap.size:=by
    rcases aA a.block w.heap.size with h|h
    ·exact h
    ·grind
   have ea:a=⟨a.block,a.off,none⟩:=by cases a;simp at hsp;subst hsp;rfl
   have key:∀i j,i<len→j<P.cellsOf e→∃v,cs[a.off+i*P.cellsOf e+j]?=some v∧dD w (l5 w) v (((l.map enc).getD i .nilf).cells.getD j .nilf):=by grind[mQ,tE]
   rw[ea,←hxl];refine dD.sl a.block a.off cap (P.cellsOf e) _ (fun i j=>cs.getD (a.off+i*P.cellsOf e+j) undef) ae ae (fun _ _=>hlt) (fun i hi=>?_) (fun i j hi hj=>?_) (fun i j hi hj=>?_)
   ·grind
   ·obtain⟨v,h1,_⟩:=key i j ae hj;rw[nA hcs];simp[cu,h1]
   ·obtain⟨v,h1,h2⟩:=key i j ae hj;simpa[cu,h1]using h2
theorem RC {k:IntKind}(hk:k= .i64)(ht:P.underlying t=some (.int k)):RdN n blk P t Int:=by
 subst hk;intro H en w base spare held fuel cs x h _ _;obtain⟨m,rfl,_,hw⟩:=DataW.trod_int ht h;have hb:IntKind.min .i64≤m∧m≤IntKind.max .i64:=by simpa[Lit.wf]using hw
 exact⟨m,.one (.i .i64 m hb.1 hb.2)⟩
theorem WV {H:Type}{en:TypeId×Value→H}{w:World}{base:Nat}{spare:Nat→Bool}{held:Bool}{fuel:Nat}{cs:List Value}{x:DataW H×List MemPlace}{fs:Array Field}(ht:P.underlying t=some (.struct fs))
  (h:DataW.trod en P w base spare held fuel t cs=some x):cs.length=P.cellsOf t∧∃ps k,x.1= .agg ps∧∀f∈fs.toList,∃y,DataW.trod en P w base spare held k f.type ((cs.drop f.offset).take (P.cellsOf f.type))=some y∧y.1∈ps:=by
 cases fuel with
 |zero=>simp[DataW.trod]at h
 |succ fuel=>
  simp only[DataW.trod,ht]at h;split at h
  case isFalse=>cases h
  rename_i hlen;refine⟨hlen,?_⟩;simp only[bN]at h;obtain⟨xs,h1,rfl⟩:=h;refine⟨_,fuel,rfl,?_⟩;generalize fs.toList=l at h1 ⊢;clear hlen ht;induction l generalizing xs with
  |nil=>simp
  |cons g l ih=>grind[Option.bind_eq_some_iff]
theorem ZM (hB:xq blk){H:Type}{en:TypeId×Value→H}{w:World}{base:Nat}{spare:Nat→Bool}{held:Bool}{k:Nat}{cs:List Value}{ps:List (DataW H)}{f:Field}{α:Type}[Enc α]
  (h:∃y,DataW.trod en P w base spare held k f.type ((cs.drop f.offset).take (P.cellsOf f.type))=some y∧y.1∈ps)(hr:RdN n blk P f.type α)(hsz:SizeOf.sizeOf (DataW.agg ps)<n+1)(hb:blk H (.agg ps)≤1048576):
  ∃a:α,CR w ((cs.drop f.offset).take (P.cellsOf f.type)) (enc a).cells:=by
 obtain⟨y,h1,h2⟩:=h;have q1:=List.sizeOf_lt_of_mem h2;simp only[DataW.agg.sizeOf_spec]at hsz;exact hr h1 ae (bz (hB.ag _ _ _ h2) hb)
end
theorem zU {n:Nat}{blk:(H:Type)→DataW H→Nat}(hB:xq blk){P:Program}{H:Type}{en:TypeId×Value→H}{w:World}{base:Nat}{spare:Nat→Bool}{held:Bool}{k:Nat}{cs:List Value}{ps:List (DataW H)}{fs:Array Field}{α:Type}[Enc α]
  (hf:∀f∈fs.toList,∃y,DataW.trod en P w base spare held k f.type ((cs.drop f.offset).take (P.cellsOf f.type))=some y∧y.1∈ps)(i:Nat){f:Field}(hi:fs[i]?=some f){o s:Nat}(ho:f.offset=o){ty:TypeId}(hty:f.type=ty)(hs:P.cellsOf ty=s)
  (hr:RdN n blk P ty α)(hsz:SizeOf.sizeOf (DataW.agg ps)<n+1)(hb:blk H (.agg ps)≤1048576):∃a:α,CR w ((cs.drop o).take s) (enc a).cells:=by
 have hm:f∈fs.toList:=by rw[←Array.getElem?_toList]at hi;exact ap
 have:=ZM hB (hf f hm) (hty▸hr) hsz hb;grind
def shI (k:Nat)(id:Id):Id:=(id.1,id.2+k)
mutual
def shD (k:Nat):D→D
 | .ptr id o=> .ptr (shI k id) o
 | .arr id es s len=> .arr (shI k id) es s len
 | .ow id es xs=> .ow (shI k id) es xs
 | .fn f caps=> .fn f (oJ k caps)
 | .agg ds=> .agg (oJ k ds)
 | .tup ds=> .tup (oJ k ds)
 | .junk=> .junk
 | .fz x=> .fz x
 | .full xs=> .full xs
 | .rp xs=> .rp xs
def oJ (k:Nat):List D→List D
 |[]=>[]
 |d::ds=>shD k d::oJ k ds
end
theorem tz {k:Nat}:∀ds:List D,oJ k ds=ds.map (shD k)
 |[]=>rfl
 |d::ds=>by rw[oJ,tz ds];rfl
section
variable {w:World} {L L2:Loc} {F:Nat→Nat→Prop} {U U2:Id→Prop} {k:Nat}
mutual
theorem bw.shift (hL:∀id,U id→L2 (shI k id)=L id)(hU:∀id,U id→U2 (shI k id)):∀(d:D) (v:Value),bw w L F U d v→bw w L2 F U2 (shD k d) v
 | .junk,_,_=>by simp[shD,bw]
 | .fz x,v,h=>by simp_all[shD,bw]
 | .full xs,v,h=>by simp_all[shD,bw]
 | .rp xs,v,h=>by simp_all[shD,bw]
 | .ptr id o,v,h=>by simp_all[shD,bw]
 | .arr id es s len,v,h=>by simp_all[shD,bw]
 | .ow id es xs,v,h=>by simp_all[shD,bw]
 | .fn f caps,v,h=>by simp only[shD,bw]at h ⊢;obtain⟨vs,h1,h2⟩:=h;exact⟨vs,h1,cA.shift hL hU _ _ h2⟩
 | .agg ds,v,h=>by simp only[shD,bw]at h ⊢;obtain⟨vs,h1,h2⟩:=h;exact⟨vs,h1,cA.shift hL hU _ _ h2⟩
 | .tup ds,v,h=>by simp only[shD,bw]at h ⊢;obtain⟨vs,h1,h2⟩:=h;exact⟨vs,h1,cA.shift hL hU _ _ h2⟩
theorem cA.shift (hL:∀id,U id→L2 (shI k id)=L id)(hU:∀id,U id→U2 (shI k id)):∀(ds:List D) (vs:List Value),cA w L F U ds vs→cA w L2 F U2 (oJ k ds) vs
 |[],[],_=>by simp[oJ,cA]
 |d::ds,v::vs,h=>by simp only[oJ,cA]at h ⊢;exact⟨bw.shift hL hU d v h.1,cA.shift hL hU ds vs h.2⟩
 |[],_::_,h=>h.elim
 |_::_,[],h=>h.elim
end
end
def shO (k:Nat)(o:O):O:={o with cells:=oJ k o.cells}
def shH (k:Nat)(H H1:bR):bR:=fun id=>if k≤id.2 then(H1 (id.1,id.2-k)).map (shO k)else H id
section
variable {P:Program} {G:Nat→List FD}
theorem wX {f:FuncId}{args:List D}{xs:List FD}{H:bR}{n:Nat}{Q:D→bR→Nat→Prop}(ha:D.toFDs args=some xs)(h:cS P G f (xs.map .fz) H0 0 Q):
  cS P G f args H n (fun d H' n'=>∃d1 H1 n1,Q d1 H1 n1∧d=shD n d1∧H'=shH n H H1∧n'=n+n1):=by
 refine⟨h.1,fun w L F vs hok hvs=>?_⟩;refine(h.2 w L F vs ⟨hok.fb,(fun _ _ h=>nomatch h),(fun _ _ _ _ h=>nomatch h),hok.glob⟩ (hvs.of_toFDs ha)).mono fun e w' he=>?_;obtain⟨v,d1,H1,n1,L1,F1,rfl,hQ,g1,g2,g3⟩:=he;have nb:∀b,¬Blk H0 L b:=by rintro b ⟨_,_,h,_⟩;cases h
 have no:∀b k,¬Own H0 L b k:=by rintro b k ⟨_,_,h,_⟩;cases h
 obtain⟨L2,hL2⟩:∃L2:Loc,L2=fun id=>if n≤id.2 then L1 (id.1,id.2-n)else L id:=⟨_,rfl⟩
 have hLs:∀id,L2 (shI n id)=L1 id:=by simp_all[shI]
 have hLo:∀id,Ub n id→L2 id=L id:=by grind[Ub]
 have hUs:∀id,Ub n1 id→Ub (n+n1) (shI n id):=by grind[Ub,shI]
 have ext:Ext w L F (Ub n) w' L2 F1 (Ub (n+n1)):=⟨by grind[Ub],hLo,g3.f,fun b k hb=>g3.keepc b k (hok.fb b k hb) (no b k),g3.size,g3.shape⟩;have cas:∀id o,shH n H H1 id=some o→(∃o1,n≤id.2∧H1 (id.1,id.2-n)=some o1∧o=shO n o1)∨(id.2<n∧H id=some o):=by grind[shH,Option.map_eq_some_iff]
 have idn:∀id:Id,n≤id.2→shI n (id.1,id.2-n)=id:=by simp_all[shI]
 have newb:∀id o1,H1 id=some o1→(L1 id).3=false→w.heap.size≤(L1 id).1:=fun id o1 h1 h2=>by
  rcases g3.bnew (L1 id).1 (L1 id).2 ⟨id,o1,h1,h2,rfl,aI _⟩with h|h
  all_goals grind
 refine⟨v,shD n d1,shH n H H1,n+n1,L2,F1,rfl,ap,⟨g1.fb,fun id o hid=>?_,fun id id' o o' h1 h2 v1 v2 e=>?_,g1.glob⟩,g2.shift ap hUs,?_⟩
 ·rcases cas id o hid with⟨o1,hn,h1,rfl⟩|⟨hn,h1⟩
  ·obtain⟨a,b⟩:=g1.live _ _ h1;have hid2:=idn id hn;refine⟨ap,?_⟩;have hLi:L2 id=L1 (id.1,id.2-n):=by rw[←hLs,hid2]
   unfold iT at b ⊢;rw[hLi];cases hv:(L1 (id.1,id.2-n)).3
   ·simp only[hv,bK,cd]at b ⊢;obtain⟨b1,cs,T,b2,b3,b4⟩:=b;refine⟨b1,cs,T,b2,by simp_all[shO,tz],fun j hj=>?_⟩;have hj':j<o1.cells.length:=by simpa[shO,tz]using hj
    obtain⟨u,c1,c2⟩:=b4 j hj';refine⟨u,c1,?_⟩;have hg:(shO n o1).cells.getD j .junk=shD n (o1.cells.getD j .junk):=by simp only[shO,tz,av,bp,ay hj',bL,bD]
    rw[hg];exact c2.shift ap hUs
   simp_all[shO,oJ]
  ·obtain⟨a,b⟩:=hok.live id o h1;refine⟨ext.u _ a,b.ext ext a fun hv=>?_⟩;have hlt:=hok.blk_lt h1 hv;refine⟨g3.keep _ hlt (nb _),fun k hk hF=>?_⟩;rcases g3.fnew _ _ hF with h|h|h
   all_goals grind[iL]
 ·rcases cas id o h1 with⟨o1,hn,e1,rfl⟩|⟨hn,e1⟩<;>rcases cas id' o' h2 with⟨o2,hn',e2,rfl⟩|⟨hn',e2⟩
  ·have i1:=idn id hn;have i2:=idn id' hn';have l1:L2 id=L1 (id.1,id.2-n):=by rw[←hLs,i1]
   have l2:L2 id'=L1 (id'.1,id'.2-n):=by rw[←hLs,i2]
   rw[l1]at v1 e;rw[l2]at v2 e;have:=g1.inj _ _ _ _ e1 e2 v1 v2 e;grind
  ·have i1:=idn id hn;have l1:L2 id=L1 (id.1,id.2-n):=by rw[←hLs,i1]
   have l2:=hLo id' hn';rw[l1]at v1 e;rw[l2]at v2 e;have a1:=newb _ _ e1 v1;have a2:=hok.blk_lt e2 v2;omega
  ·have i2:=idn id' hn';have l2:L2 id'=L1 (id'.1,id'.2-n):=by rw[←hLs,i2]
   have l1:=hLo id hn;rw[l1]at v1 e;rw[l2]at v2 e;have a1:=newb _ _ e2 v2;have a2:=hok.blk_lt e1 v1;omega
  ·rw[hLo id hn]at v1 e;rw[hLo id' hn']at v2 e;exact hok.inj _ _ _ _ e1 e2 v1 v2 e
 ·refine⟨by grind[Ub],hLo,g3.f,g3.size,fun b hb _=>g3.keep b hb (nb b),fun b k hb _=>g3.keepc b k hb (no b k),g3.shape,fun b k hb=>?_,fun b k hb=>?_,g3.os,g3.tape,g3.output,g3.drawn⟩
  ·rcases g3.fnew b k hb with h|h|h
   all_goals grind
  ·obtain⟨id,o,h1,h2,rfl,h4⟩:=hb;rcases cas id o h1 with⟨o1,hn,e1,rfl⟩|⟨hn,e1⟩
   ·grind
   ·rw[hLo id hn]at h2 h4 ⊢;exact .inr ⟨id,o,e1,h2,rfl,h4⟩
end
section
variable {P:Program} {G:Nat→List FD}
theorem uy {f:FuncId}{args:List D}{H:bR}{n:Nat}{R:D→bR→Nat→Prop}(hc:cW P f)(h:(∀id,n≤id.2→H id=none)→cS P G f args H n R):cS P G f args H n R:=by
 refine⟨hc,fun w L F vs hok hvs=>(h fun id hid=>?_).2 w L F vs hok hvs⟩;cases ho:H id with
 |none=>rfl
 |some o=>have:=(hok.live id o ho).1;grind[Ub]
theorem OJ {N:Nat}{st:St}{l:List (Nat×D)}{H':bR}{n:Nat}(hf:pM st.fr l)(hh:∀id o,H' id=some o→st.H id=some o)(hn:st.n≤n):gH G N st ⟨frL l,H',n⟩:=oo hf hh hn
theorem uE {f:FuncId}{args:List D}{H:bR}{n:Nat}{R:D→bR→Nat→Prop}{d:D}(hc:cW P f)
  (h:(∀id,n≤id.2→H id=none)→cS P G f args H n (fun d' H' n'=>d'=d∧n≤n'∧∀id,id.2<n→H' id=H id))(hR:∀n',n≤n'→R d H n'):cS P G f args H n R:=by
 refine uy hc fun hfr=>lj (h hfr) ?_;rintro d' H' n' ⟨rfl,h1,h2⟩;refine⟨d',H,n',OJ ?_ (fun id o ho=>?_) (aI _),hR n' h1⟩
 ·exact⟨rfl,trivial⟩
 grind
end
theorem NO {n:Nat}{f:bR}:∀{l:List (Id×Option O)},(∀p∈l,n≤p.1.2)→∀id,id.2<n→hpX l f id=f id
 |[],_,_,_=>rfl
 |(i,o)::l,h,id,hid=>by have h1:=h (i,o) ak;simp only[hpX];rw[az ap];exact NO ap id hid
inductive aH where
 |mk (kind:Int) (name:Str) (words:List Str) (subs:List aH)
namespace aH
def kind:aH→Int|mk k _ _ _=>k
def name:aH→Str|mk _ n _ _=>n
def words:aH→List Str|mk _ _ w _=>w
def subs:aH→List aH|mk _ _ _ s=>s
end aH
@[go_sem] theorem dS {k n w s}:(aH.mk k n w s).kind=k:=rfl
@[go_sem] theorem rm {k n w s}:(aH.mk k n w s).name=n:=rfl
@[go_sem] theorem pT {k n w s}:(aH.mk k n w s).words=w:=rfl
@[go_sem] theorem iS {k n w s}:(aH.mk k n w s).subs=s:=rfl
@[go_sem] theorem bt {f:aH}:aH.mk f.kind f.name f.words f.subs=f:=by cases f;rfl
mutual
def ug:aH→FD
 | .mk k n w s=> .agg [.i .i64 k,.s n.l,.sl (w.map enc),.sl (vN s)]
def vN:List aH→List FD
 |[]=>[]
 |f::fs=>ug f::vN fs
end
mutual
def ud:FD→aH
 | .agg [.i _ k,.s n,.sl w,.sl s]=> .mk k ⟨n⟩ (w.map dec) (vS s)
 |_=> .mk 0 ⟨[]⟩ [] []
def vS:List FD→List aH
 |[]=>[]
 |x::xs=>ud x::vS xs
end
theorem uB {α:Type}[Enc α](l:List α):(l.map enc).map dec=l:=by rw[bX,show(dec∘enc:α→α)=id from funext fun a=>dec_enc a];simp
mutual
theorem J8:∀f,ud (ug f)=f
 | .mk k n w s=>by simp only[ug,ud,uB,Ij s]
theorem Ij:∀s,vS (vN s)=s
 |[]=>rfl
 |f::fs=>by simp only[vN,vS,J8 f,Ij fs]
end
instance:Enc aH:=⟨ug,ud,J8⟩
theorem Kk:∀s:List aH,vN s=s.map enc
 |[]=>rfl
 |f::fs=>by rw[vN,Kk fs];rfl
theorem J9:∀s:List FD,vS s=dec (α:=List aH) (.sl s)
 |[]=>rfl
 |f::fs=>by rw[vS,J9 fs];rfl
@[go_sem] theorem jf {f:aH}:enc f= .agg [.i .i64 f.kind,.s f.name.l,.sl (f.words.map enc),.sl (f.subs.map enc)]:=by
 cases f with
 |mk k n w s=>show ug _=_;rw[ug,Kk];rfl
@[go_sem] theorem zKp {i k n w s}:dec (α:=aH) (.agg [.i i k,.s n,.sl w,.sl s])= .mk k ⟨n⟩ (dec (.sl w)) (dec (.sl s)):=by show ud _=_;rw[ud,J9];rfl
instance:Kc aH 4:=⟨fun f=>by rw[jf];rfl⟩
@[go_sem] theorem zHh {l:List aH}:dP (l.map enc) 4=True:=aU (qA l)
@[go_sem] theorem IH {l:List aH}:(bA (l.map enc)).all fh=true:=by rw[cB];intro d hd;simp only[bA,ff,be]at hd;obtain⟨_,⟨a,_,rfl⟩,x,hx,rfl⟩:=hd;simp only[jf,FD.cells,aV,aZ,ct]at hx;rcases hx with rfl|rfl|rfl|rfl<;>rfl
mutual
def aH.beq:aH→aH→Bool
 | .mk k n w s,.mk k' n' w' s'=>decide (k=k')&&decide (n=n')&&decide (w=w')&&aH.beqs s s'
def aH.beqs:List aH→List aH→Bool
 |[],[]=>true
 |f::fs,g::gs=>aH.beq f g&&aH.beqs fs gs
 |[],_::_=>false
 |_::_,[]=>false
end
mutual
theorem aH.beq_iff:∀f g:aH,aH.beq f g=true↔f=g
 | .mk k n w s,.mk k' n' w' s'=>by simp only[aH.beq,aS,bi,aH.beqs_iff s s',aH.mk.injEq];grind
theorem aH.beqs_iff:∀f g:List aH,aH.beqs f g=true↔f=g
 |[],[]=>by simp[aH.beqs]
 |f::fs,g::gs=>by simp only[aH.beqs,aS,aH.beq_iff f g,aH.beqs_iff fs gs,db]
 |[],_::_=>by simp[aH.beqs]
 |_::_,[]=>by simp[aH.beqs]
end
instance:DecidableEq aH:=fun f g=>decidable_of_iff _ (aH.beq_iff f g)
instance:Inhabited aH:=⟨.mk 0 ⟨[]⟩ [] []⟩
mutual
def aH.size:aH→Nat
 | .mk _ _ _ s=>aH.sizes s+1
def aH.sizes:List aH→Nat
 |[]=>0
 |f::fs=>f.size+aH.sizes fs
end
theorem aH.size_mem:∀{l:List aH} {f:aH},f∈l→f.size≤aH.sizes l
 |g::l,f,h=>by
  rw[aH.sizes];rcases aV.1 h with rfl|h
  ·omega
  ·have:=aH.size_mem h;omega
theorem aH.size_sub {f g:aH}(h:g∈f.subs):g.size<f.size:=by
 cases f with
 |mk k n w s=>rw[aH.size];have:=aH.size_mem (show g∈s from h);omega
theorem aH.size_pos (f:aH):0<f.size:=by cases f;rw[aH.size];omega
section
variable {P:Program} {G:Nat→List FD} {T:Tbl}
theorem DG {α ρ:Type}[Enc α][Enc ρ]{f:FuncId}{g:α→ρ}{pre:α→Prop}(m:α→Nat)(hc:cW P f)(hT:b9 P G T)
  (h:∀n,b9 P G (T.add f (sp1 g fun a=>m a<n∧pre a))→∀a,m a=n→pre a→(enc a).Wf→cS P G f [.fz (enc a)] (hpL []) 0 (fun d _ _=>D.val d=some (.fz (enc (g a))))):b9 P G (T.add f (sp1 g pre)):=by
 have key:∀n,b9 P G (T.add f (sp1 g fun a=>m a<n∧pre a)):=by
  intro n;induction n with
  |zero=>simp_all[iD]
  |succ n ih=>
   refine iD hc hT fun a ha hw=>?_;rcases aA (m a) n with h1|h1
   ·have h2:=ih f (sp1 g fun a=>m a<n∧pre a) [enc a] _ _ (by simp[Tbl.add]) (T4) (by simp_all[dec_enc]);simp_all[dec_enc,ky]
   grind
 simp_all[iD]
end
def mZ (c:UInt8):Prop:=97≤(c.toNat:Int)∧(c.toNat:Int)≤122
def okc (c:UInt8):Prop:=mZ c∨(48≤(c.toNat:Int)∧(c.toNat:Int)≤57)∨(c.toNat:Int)=95∨(c.toNat:Int)=45
instance (c:UInt8):Decidable (mZ c):=inferInstanceAs (Decidable (_∧_))
instance (c:UInt8):Decidable (okc c):=inferInstanceAs (Decidable (_∨_))
def dI (s:Str):Bool:=decide (1≤s.l.length∧s.l.length≤30∧mZ (s.l.getD 0 0)∧∀j,j<s.l.length→okc (s.l.getD j 0))
theorem Kt {p:Nat→Prop}{i:Nat}(h:∀j,j<i→p j)(hi:p i):∀j,j<i+1→p j:=ap
theorem tb {s:Str}(h:¬(1≤s.l.length∧s.l.length≤30∧mZ (s.l.getD 0 0))):dI s=false:=by simp_all[dI]
theorem MU {s:Str}{j:Nat}(hj:j<s.l.length)(h:¬okc (s.l.getD j 0)):dI s=false:=by grind[dI]
theorem yL {s:Str}(h1:1≤s.l.length)(h2:s.l.length≤30)(h3:mZ (s.l.getD 0 0))(h4:∀j,j<s.l.length→okc (s.l.getD j 0)):dI s=true:=by simp_all[dI]
theorem Zj {s:Str}{j:Nat}(e:j=0)(h:¬mZ (s.l.getD j 0)):dI s=false:=by simp_all[tb]
theorem Qp {s:Str}{i:Nat}(hz:0<i→mZ (s.l.getD 0 0))(h:i=0→mZ (s.l.getD i 0)):0<i+1→mZ (s.l.getD 0 0):=ap
structure eO (n:Nat)(p:Nat→Prop) where
 i:Nat
 hi:i≤n
 hp:p i
structure fW (n n0:Nat)(p:Nat→Prop) where
 i:Nat
 m:Nat
 hi:i≤n
 hm:n0≤m
 hp:p i
structure jL (n n0:Nat)(p:Nat→Prop) where
 i:Nat
 g:Nat
 m:Nat
 hi:i≤n
 hg:g<m
 hm:n0≤m
 hp:p i
def idx (l:List Str)(s:Str):Int:=if s∈l then(l.idxOf s:Int)else-1
theorem zX {s:Str}:∀{l:List Str} {i:Nat} (h:i<l.length),s∉l.take i→l[i]=s→l.idxOf s=i
 |[],i,h,_,_=>ap
 |x::l,0,h,_,e=>ap
 |x::l,i+1,h,h1,e=>by simp only[bm,aV,not_or]at h1;grind[zX (s:=s) (l:=l) (i:=i) qQh h1.2 (by simpa using e)]
theorem IY {α:Type}{l:List α}{i:Nat}{s:α}(h:i<l.length)(h1:s∉l.take i)(h2:¬l[i]=s):s∉l.take (i+1):=by grind[List.take_succ_eq_append_getElem]
theorem K3 {α:Type}{l:List α}{i:Nat}{s:α}(h:¬i<l.length)(h1:s∉l.take i):s∉l:=by simp_all[bV]
theorem Ie {α:Type}{a b:List α}{i:Nat}(h1:i<a.length)(h2:i<b.length)(h:a.take i=b.take i)(e:a[i]=b[i]):a.take (i+1)=b.take (i+1):=by grind[List.take_succ_eq_append_getElem]
theorem MI {α:Type}{a b:List α}{i:Nat}(h1:i<a.length)(h2:i<b.length)(h:¬a[i]=b[i]):¬a=b:=ap
theorem Ic {α:Type}{a b:List α}{i:Nat}(hl:a.length=b.length)(h:¬i<a.length)(e:a.take i=b.take i):a=b:=by simp_all[bV]
theorem HI {α:Type}{O:List α}{f:α→Bool}{j:Nat}(h:j<O.length):(O.take (j+1)).any f=((O.take j).any f||f O[j]):=by grind[List.take_succ_eq_append_getElem]
theorem Bu {α:Type}{O:List α}{f:α→Bool}{j:Nat}(h:j<O.length):(O.take (j+1)).all f=((O.take j).all f&&f O[j]):=by grind[List.take_succ_eq_append_getElem]
def lz (k:Int):Int:=if k=1∨k=2∨k=3 then 0 else if k=4∨k=8∨k=9 then 1 else if k=5∨k=6∨k=7 then 2 else-1
def named (f:aH):Bool:=decide (f.kind=2∨f.kind=8∨f.kind=9∨f.kind=10)
def pA (f:aH):Bool:=if f.kind=2 then decide (f.words.length≤3)else if f.kind=3 then decide (f.words.length=2)else decide (f.words.length=0)
def iU (op:Bool)(f:aH):Int:=if f.kind=10∧op=true then 0 else lz f.kind
def jV (op:Bool)(f:aH)(depth:Int)(n:Nat):Int:=
 if 200<n+1∨40<depth then 1 else if iU op f<0 then 4 else if¬((f.subs.length:Int)=iU op f∧pA f=true)then 9
 else if named f=true∧dI f.name=false then 10 else if named f=false∧f.name≠⟨[]⟩then 5 else if f.words.all dI=false then 10 else 0
mutual
def chk (op:Bool):aH→Int→Nat→iY×Nat
 | .mk k nm w s,depth,n=>if jV op (.mk k nm w s) depth n≠0 then(⟨jV op (.mk k nm w s) depth n,n⟩,n+1)else gX op s (depth+1) (n+1)
def gX (op:Bool):List aH→Int→Nat→iY×Nat
 |[],_,n=>(⟨0,0⟩,n)
 |f::fs,depth,n=>if(chk op f depth n).1.code≠0 then chk op f depth n else gX op fs depth (chk op f depth n).2
end
def dB (op:Bool)(f:aH):iY:=(chk op f 1 0).1
theorem DY {op:Bool}{f:aH}{depth:Int}{n:Nat}:chk op f depth n=if jV op f depth n≠0 then(⟨jV op f depth n,n⟩,n+1)else gX op f.subs (depth+1) (n+1):=by cases f;rfl
mutual
theorem xH {op:Bool}:∀(f:aH) (depth:Int) (n:Nat),((chk op f depth n).1.code=0→(chk op f depth n).1=⟨0,0⟩∧(chk op f depth n).2≤200∧n<(chk op f depth n).2)
 | .mk k nm w s,depth,n=>by
  rw[chk];split
  ·grind
  ·rename_i h;intro h2;have hn:n+1≤200:=by
    unfold jV at h;split at h
    ·omega
    ·omega
   have:=EA s (depth+1) (n+1) hn h2;grind
theorem EA {op:Bool}:∀(fs:List aH) (depth:Int) (n:Nat),n≤200→((gX op fs depth n).1.code=0→(gX op fs depth n).1=⟨0,0⟩∧(gX op fs depth n).2≤200∧n≤(gX op fs depth n).2)
 |[],depth,n,hn=>by simp_all[gX]
 |f::fs,depth,n,hn=>by
  rw[gX];split
  ·omega
  ·rename_i h;have h3:=xH f depth n (bT.1 h);intro h2;have:=EA fs depth _ h3.2.1 h2;grind
end
def qQ (op:Bool):List (aH×Int)→Nat→iY
 |[],_=>⟨0,0⟩
 |(f,d)::st,n=>if(chk op f d n).1.code≠0 then(chk op f d n).1 else qQ op st (chk op f d n).2
theorem KO {op:Bool}{d:Int}{st:List (aH×Int)}:∀(fs:List aH) (n:Nat),qQ op (fs.map (fun g=>(g,d))++st) n=if(gX op fs d n).1.code≠0 then(gX op fs d n).1 else qQ op st (gX op fs d n).2
 |[],n=>by rfl
 |f::fs,n=>by grind[qQ,gX,KO fs _]
theorem Yt {op:Bool}{f:aH}{d:Int}{st:List (aH×Int)}{n:Nat}:qQ op ((f,d)::st) n=if jV op f d n≠0 then⟨jV op f d n,n⟩else qQ op (f.subs.map (fun g=>(g,d+1))++st) (n+1):=by grind[qQ,KO,DY]
theorem ZQ {op:Bool}{f:aH}:qQ op [(f,1)] 0=dB op f:=by simp_all[dB,qQ,xH]
theorem uz {op:Bool}{f:aH}(h:(dB op f).code=0):dB op f=⟨0,0⟩:=(xH f 1 0 h).1
mutual
inductive dL where
 |mk (kind:Int) (name:Str) (form:aH) (boxes:List Box)
inductive Box where
 |mk (refs:List Str) (conds:List dL)
end
def dL.kind:dL→Int| .mk k _ _ _=>k
def dL.name:dL→Str| .mk _ n _ _=>n
def dL.form:dL→aH| .mk _ _ f _=>f
def dL.boxes:dL→List Box| .mk _ _ _ b=>b
def Box.refs:Box→List Str| .mk r _=>r
def Box.conds:Box→List dL| .mk _ c=>c
@[go_sem] theorem zHQ {k n f b}:(dL.mk k n f b).kind=k:=rfl
@[go_sem] theorem zHR {k n f b}:(dL.mk k n f b).name=n:=rfl
@[go_sem] theorem zHP {k n f b}:(dL.mk k n f b).form=f:=rfl
@[go_sem] theorem zGz {k n f b}:(dL.mk k n f b).boxes=b:=rfl
@[go_sem] theorem zKh {r c}:(Box.mk r c).refs=r:=rfl
@[go_sem] theorem zHI {r c}:(Box.mk r c).conds=c:=rfl
@[go_sem] theorem zKl {c:dL}:dL.mk c.kind c.name c.form c.boxes=c:=by cases c;rfl
@[go_sem] theorem zLZ {b:Box}:Box.mk b.refs b.conds=b:=by cases b;rfl
mutual
def uf:dL→FD
 | .mk k n f b=> .agg [.i .i64 k,.s n.l,.i .i64 f.kind,.s f.name.l,.sl (f.words.map enc),.sl (f.subs.map enc),.sl (vK b)]
def ue:Box→FD
 | .mk r c=> .agg [.sl (r.map enc),.sl (vM c)]
def vK:List Box→List FD
 |[]=>[]
 |b::bs=>ue b::vK bs
def vM:List dL→List FD
 |[]=>[]
 |c::cs=>uf c::vM cs
end
mutual
def uc:FD→dL
 | .agg [.i _ k,.s n,.i _ fk,.s fn,.sl fw,.sl fs,.sl b]=> .mk k ⟨n⟩ (.mk fk ⟨fn⟩ (fw.map dec) (fs.map dec)) (vQ b)
 |_=> .mk 0 ⟨[]⟩ (.mk 0 ⟨[]⟩ [] []) []
def ub:FD→Box
 | .agg [.sl r,.sl c]=> .mk (r.map dec) (vR c)
 |_=> .mk [] []
def vQ:List FD→List Box
 |[]=>[]
 |x::xs=>ub x::vQ xs
def vR:List FD→List dL
 |[]=>[]
 |x::xs=>uc x::vR xs
end
mutual
theorem J6:∀c,uc (uf c)=c
 | .mk k n f b=>by simp only[uf,uc,uB,Iw b,bn,bt]
theorem J4:∀b,ub (ue b)=b
 | .mk r c=>by simp only[ue,ub,uB,Ii c]
theorem Iw:∀b,vQ (vK b)=b
 |[]=>rfl
 |b::bs=>by simp only[vK,vQ,J4 b,Iw bs]
theorem Ii:∀c,vR (vM c)=c
 |[]=>rfl
 |c::cs=>by simp only[vM,vR,J6 c,Ii cs]
end
instance:Enc dL:=⟨uf,uc,J6⟩
instance:Enc Box:=⟨ue,ub,J4⟩
theorem Kh:∀s:List Box,vK s=s.map enc
 |[]=>rfl
 |f::fs=>by rw[vK,Kh fs];rfl
theorem Kj:∀s:List dL,vM s=s.map enc
 |[]=>rfl
 |f::fs=>by rw[vM,Kj fs];rfl
theorem J5:∀s:List FD,vQ s=dec (α:=List Box) (.sl s)
 |[]=>rfl
 |f::fs=>by rw[vQ,J5 fs];rfl
theorem J7:∀s:List FD,vR s=dec (α:=List dL) (.sl s)
 |[]=>rfl
 |f::fs=>by rw[vR,J7 fs];rfl
@[go_sem] theorem Xh {c:dL}:enc c= .agg [.i .i64 c.kind,.s c.name.l,.i .i64 c.form.kind,.s c.form.name.l,.sl (c.form.words.map enc),.sl (c.form.subs.map enc),.sl (c.boxes.map enc)]:=by
 cases c with
 |mk k n f b=>show uf _=_;rw[uf,Kh];rfl
@[go_sem] theorem Zn {b:Box}:enc b= .agg [.sl (b.refs.map enc),.sl (b.conds.map enc)]:=by
 cases b with
 |mk r c=>show ue _=_;rw[ue,Kj];rfl
@[go_sem] theorem zKo {i j k n fk fn fw fs b}:dec (α:=dL) (.agg [.i i k,.s n,.i j fk,.s fn,.sl fw,.sl fs,.sl b])= .mk k ⟨n⟩ (.mk fk ⟨fn⟩ (dec (.sl fw)) (dec (.sl fs))) (dec (.sl b)):=by show uc _=_;rw[uc,J5];rfl
@[go_sem] theorem zL9 {r c}:dec (α:=Box) (.agg [.sl r,.sl c])= .mk (dec (.sl r)) (dec (.sl c)):=by show ub _=_;rw[ub,J7];rfl
instance:Kc dL 7:=⟨fun f=>by rw[Xh];rfl⟩
instance:Kc Box 2:=⟨fun f=>by rw[Zn];rfl⟩
mutual
def dL.size:dL→Nat
 | .mk _ _ _ b=>Box.sizes b+1
def Box.size:Box→Nat
 | .mk _ c=>dL.sizes c+1
def Box.sizes:List Box→Nat
 |[]=>0
 |b::bs=>b.size+Box.sizes bs
def dL.sizes:List dL→Nat
 |[]=>0
 |c::cs=>c.size+dL.sizes cs
end
theorem Box.size_mem:∀{l:List Box} {f:Box},f∈l→f.size≤Box.sizes l
 |g::l,f,h=>by
  rw[Box.sizes];rcases aV.1 h with rfl|h
  ·omega
  ·have:=Box.size_mem h;omega
theorem dL.size_mem:∀{l:List dL} {f:dL},f∈l→f.size≤dL.sizes l
 |g::l,f,h=>by
  rw[dL.sizes];rcases aV.1 h with rfl|h
  ·omega
  ·have:=dL.size_mem h;omega
theorem Box.size_sub {b:Box}{c:dL}(h:c∈b.conds):c.size<b.size:=by
 cases b with
 |mk r cs=>rw[Box.size];have:=dL.size_mem (show c∈cs from h);omega
theorem dL.size_sub {c:dL}{b:Box}(h:b∈c.boxes):b.size<c.size:=by
 cases c with
 |mk k n f bs=>rw[dL.size];have:=Box.size_mem (show b∈bs from h);omega
def z8 (k:Int):Int:=if k=1∨k=5 then 0 else if k=2∨k=6 then 1 else if k=3∨k=4 then 2 else-1
def S9 (f:aH):Bool:=decide (f.kind=0)&&decide (f.name=⟨[]⟩)&&decide (f.words.length=0)&&decide (f.subs.length=0)
def Fq (c:dL)(refs:List Str):Int:=
 if z8 c.kind<0 then 4 else if¬(c.boxes.length:Int)=z8 c.kind then 9 else if c.kind≠5∧c.name≠⟨[]⟩∨0<z8 c.kind∧S9 c.form=false then 5
 else if 0<z8 c.kind then 0 else if(dB false c.form).code≠0 then(dB false c.form).code
 else if c.kind=1∧c.form.kind≠2∧c.form.kind≠3∨c.kind=5∧(c.form.kind≠2∨c.form.words.length≠0)then 5 else if c.kind=5∧c.name∉refs then 6 else 0
def rS:List Str→List Str→Int×List Str
 |refs,[]=>(0,refs)
 |refs,x::xs=>if dI x=false then(10,refs)else if x∈refs then(7,refs)else rS (refs++[x]) xs
structure BS where
 e:iY
 n:Nat
 refs:List Str
mutual
def p8:Box→Int→Int→Nat→List Str→BS
 | .mk r cs,depth,most,n,refs=>
  if 200<n+1∨10<depth then⟨⟨1,n⟩,n+1,refs⟩
  else if most<r.length∨200<refs.length+r.length then⟨⟨2,n⟩,n+1,refs⟩
  else if(rS refs r).1≠0 then⟨⟨(rS refs r).1,n⟩,n+1,(rS refs r).2⟩
  else qI r cs depth (n+1) (rS refs r).2
def qI:List Str→List dL→Int→Nat→List Str→BS
 |_,[],_,n,refs=>⟨⟨0,0⟩,n,refs⟩
 |r,c::cs,depth,n,refs=>if(p4 r c depth n refs).e.code≠0 then p4 r c depth n refs else qI r cs depth (p4 r c depth n refs).n (p4 r c depth n refs).refs
def p4:List Str→dL→Int→Nat→List Str→BS
 |r,.mk k nm f bs,depth,n,refs=>
  if 200<n+1 then⟨⟨1,n⟩,n+1,refs⟩else if Fq (.mk k nm f bs) r≠0 then⟨⟨Fq (.mk k nm f bs) r,n⟩,n+1,refs⟩
  else qO bs (depth+1) (if k=6 then 2 else 200) (n+1) refs
def qO:List Box→Int→Int→Nat→List Str→BS
 |[],_,_,n,refs=>⟨⟨0,0⟩,n,refs⟩
 |b::bs,depth,most,n,refs=>if(p8 b depth most n refs).e.code≠0 then p8 b depth most n refs else qO bs depth most (p8 b depth most n refs).n (p8 b depth most n refs).refs
end
def eI(i:Int):D:= .fz (.i .i64 i)
def eS {α}[Enc α](l:List α):D:= .fz (.sl (l.map enc))
def qcF (f:aH):List FD:=[.i .i64 f.kind,.s f.name.l,.sl (f.words.map enc),.sl (f.subs.map enc)]
def qcD (f:aH):List D:=[.fz (.i .i64 f.kind),.fz (.s f.name.l),.fz (.sl (f.words.map enc)),.fz (.sl (f.subs.map enc))]
attribute[go_sem] eI eS qcF qcD
mutual
def Box.tot:Box→Nat
 | .mk r cs=>r.length+dL.tots cs
def dL.tot:dL→Nat
 | .mk _ _ _ bs=>1+Box.tots bs
def Box.tots:List Box→Nat
 |[]=>0
 |b::bs=>b.tot+Box.tots bs
def dL.tots:List dL→Nat
 |[]=>0
 |c::cs=>c.tot+dL.tots cs
end
theorem Box.tot_eq {b:Box}:b.tot=b.refs.length+dL.tots b.conds:=by cases b;rfl
theorem dL.tot_eq {c:dL}:c.tot=1+Box.tots c.boxes:=by cases c;rfl
theorem Lb:∀{xs refs:List Str},(rS refs xs).1=0→(rS refs xs).2=refs++xs
 |[],refs,_=>by simp[rS]
 |x::xs,refs,h=>by
  rw[rS]at h ⊢;split at h
  ·simp at h
  ·split at h
   ·simp at h
   ·rename_i h1 h2;rw[az h1,az h2,Lb h];simp
mutual
theorem Pw:∀(b:Box) (d m:Int) (n:Nat) (refs:List Str),(p8 b d m n refs).e.code=0→
  (p8 b d m n refs).e=⟨0,0⟩∧n+refs.length+b.tot≤(p8 b d m n refs).n+(p8 b d m n refs).refs.length∧(p8 b d m n refs).n≤200∧(p8 b d m n refs).refs.length≤200
 | .mk r cs,d,m,n,refs,h=>by
  rw[p8]at h ⊢;split at h
  ·simp at h
  rename_i h1;rw[az h1];split at h
  ·simp at h
  rename_i h2;rw[az h2];split at h
  ·rename_i h3;exact absurd h h3
  rename_i h3;rw[az h3];have e:=Lb (bT.1 h3);rw[e]at h ⊢;obtain⟨g1,g2,g3,g4⟩:=Jk r cs d (n+1) (refs++r) ae ap h;grind[Box.tot]
theorem Jk:∀(r:List Str) (cs:List dL) (d:Int) (n:Nat) (refs:List Str),n≤200→refs.length≤200→(qI r cs d n refs).e.code=0→
  (qI r cs d n refs).e=⟨0,0⟩∧n+refs.length+dL.tots cs≤(qI r cs d n refs).n+(qI r cs d n refs).refs.length∧(qI r cs d n refs).n≤200∧(qI r cs d n refs).refs.length≤200
 |r,[],d,n,refs,h1,h2,_=>by simp_all[qI,dL.tots]
 |r,c::cs,d,n,refs,h1,h2,h=>by
  rw[qI]at h ⊢;split at h
  ·omega
  rename_i h3;rw[az h3];obtain⟨g1,g2,g3,g4⟩:=YJ r c d n refs h1 h2 ae;obtain⟨k1,k2,k3,k4⟩:=Jk r cs d _ _ g3 g4 h;grind[dL.tots]
theorem YJ:∀(r:List Str) (c:dL) (d:Int) (n:Nat) (refs:List Str),n≤200→refs.length≤200→(p4 r c d n refs).e.code=0→
  (p4 r c d n refs).e=⟨0,0⟩∧n+refs.length+c.tot≤(p4 r c d n refs).n+(p4 r c d n refs).refs.length∧(p4 r c d n refs).n≤200∧(p4 r c d n refs).refs.length≤200
 |r,.mk k nm f bs,d,n,refs,h1,h2,h=>by
  rw[p4]at h ⊢;split at h
  ·simp at h
  rename_i h3;rw[az h3];split at h
  ·rename_i h4;exact absurd h h4
  rename_i h4;rw[az h4];obtain⟨g1,g2,g3,g4⟩:=Kx bs (d+1) (if k=6 then 2 else 200) (n+1) refs ae h2 h;grind[dL.tot]
theorem Kx:∀(bs:List Box) (d m:Int) (n:Nat) (refs:List Str),n≤200→refs.length≤200→(qO bs d m n refs).e.code=0→
  (qO bs d m n refs).e=⟨0,0⟩∧n+refs.length+Box.tots bs≤(qO bs d m n refs).n+(qO bs d m n refs).refs.length∧(qO bs d m n refs).n≤200∧(qO bs d m n refs).refs.length≤200
 |[],d,m,n,refs,h1,h2,_=>by simp_all[qO,Box.tots]
 |b::bs,d,m,n,refs,h1,h2,h=>by
  rw[qO]at h ⊢;split at h
  ·omega
  rename_i h3;rw[az h3];obtain⟨g1,g2,g3,g4⟩:=Pw b d m n refs ae;obtain⟨k1,k2,k3,k4⟩:=Kx bs d m _ _ g3 g4 h;grind[Box.tots]
end
theorem dL.tots_get:∀{cs:List dL} {i:Nat} (h:i<cs.length),cs[i].tot≤dL.tots cs
 |c::cs,0,_=>by rw[dL.tots];simp
 |c::cs,i+1,h=>by grind[dL.tots,dL.tots_get (cs:=cs) (i:=i) qQh]
theorem Box.tots_get:∀{bs:List Box} {i:Nat} (h:i<bs.length),bs[i].tot≤Box.tots bs
 |b::bs,0,_=>by rw[Box.tots];simp
 |b::bs,i+1,h=>by grind[Box.tots,Box.tots_get (bs:=bs) (i:=i) qQh]
def noB:Box:= .mk [] []
mutual
def AX:dL→dL→Bool
 | .mk k n f bs,.mk k' n' f' bs'=>decide (k=k')&&decide (n=n')&&decide (f=f')&&tO bs bs'
def AW:Box→Box→Bool
 | .mk r cs,.mk r' cs'=>decide (r=r')&&tP cs cs'
def tO:List Box→List Box→Bool
 |[],[]=>true
 |b::bs,d::ds=>AW b d&&tO bs ds
 |[],_::_=>false
 |_::_,[]=>false
def tP:List dL→List dL→Bool
 |[],[]=>true
 |b::bs,d::ds=>AX b d&&tP bs ds
 |[],_::_=>false
 |_::_,[]=>false
end
mutual
theorem Xj:∀a b:dL,AX a b=true↔a=b
 | .mk k n f bs,.mk k' n' f' bs'=>by rw[AX,aS,aS,aS,Kv bs bs',bi,bi,bi,dL.mk.injEq,and_assoc,and_assoc]
theorem Xi:∀a b:Box,AW a b=true↔a=b
 | .mk r cs,.mk r' cs'=>by rw[AW,aS,Kw cs cs',bi,Box.mk.injEq]
theorem Kv:∀a b:List Box,tO a b=true↔a=b
 |[],[]=>by simp[tO]
 |b::bs,d::ds=>by rw[tO,aS,Xi b d,Kv bs ds,db]
 |[],_::_=>by simp[tO]
 |_::_,[]=>by simp[tO]
theorem Kw:∀a b:List dL,tP a b=true↔a=b
 |[],[]=>by simp[tP]
 |b::bs,d::ds=>by rw[tP,aS,Xj b d,Kw bs ds,db]
 |[],_::_=>by simp[tP]
 |_::_,[]=>by simp[tP]
end
def tT (nm:Str)(w:List Str):aH:= .mk 2 nm w []
def x3 (v b:Box):Box:= .mk (v.refs++b.refs) (v.conds++b.conds)
@[go_sem] theorem zHn {v b:Box}:(x3 v b).refs=v.refs++b.refs:=rfl
@[go_sem] theorem zGs {v b:Box}:(x3 v b).conds=v.conds++b.conds:=rfl
def Sg (v:Box)(c:dL)(k:Int):Box:=if c.kind=3∧k=1 then x3 v (c.boxes.getD 0 noB)else v
def FL (a b:Str):dL:= .mk 1 ⟨[]⟩ (.mk 3 ⟨[]⟩ [a,b] []) []
structure Chg where
 conds:List dL
 refs:List Str
 top:Box
def FC (v:Box)(f:aH):Bool:=v.conds.any fun c=>decide (c.kind=1)&&decide (c.form=f)
def UI (fr to:List Str)(w:Str):Str:=if w∈fr then to.getD (fr.idxOf w) ⟨[]⟩else w
def UY (f:aH)(fr to:List Str):aH:= .mk f.kind f.name (f.words.map (UI fr to)) f.subs
def Hs (rs:List Str):Nat→List Str→List (List Str)
 |0,to=>[to]
 |n+1,to=>rs.flatMap fun y=>Hs rs n (to++[y])
def TC (v p:Box)(to:List Str):Bool:=p.conds.all fun x=>FC v (UY x.form p.refs to)
def Uz (p:Box)(to:List Str):Chg:=⟨List.zipWith FL p.refs to,p.refs,noB⟩
def Tb (p:Box):Bool:=p.conds.all fun x=>decide (x.kind=1)
def Sm (v p:Box):List Chg:=if Tb p then((Hs v.refs p.refs.length []).filter (TC v p)).map (Uz p)else[]
def TK (v:Box)(c:dL)(y:Str):Bool:=decide (¬y=c.name)&&FC v (tT c.form.name [y])
def TZ (c:dL)(y:Str):Chg:=⟨[FL c.name y],[],noB⟩
def T3 (v:Box)(c:dL):List Chg:=(v.refs.filter (TK v c)).map (TZ c)
def VB (p:Box):Chg:=⟨[],[],p⟩
def TX (l:List Chg)(p:Box):List Chg:=if l.length=0 then[VB p]else l
def Ug (v:Box)(c:dL):List Chg:=
 if c.kind=5 then T3 v c else if c.kind=6 then TX (Sm v (c.boxes.getD 0 noB)) (c.boxes.getD 0 noB)else[]
mutual
def Vl:Box→Box→Option (List (Box×Box))
 | .mk r cs,v=>FN r [] cs (x3 v (.mk r cs))
def FN:List Str→List dL→List dL→Box→Option (List (Box×Box))
 |_,_,[],_=>none
 |r,pre,c::cs,v=>match Vm c v with
  |some l=>some (l.map fun x=>(Box.mk (r++x.refs) (pre++x.conds++cs),x.top))
  |none=>FN r (pre++[c]) cs v
def Vm:dL→Box→Option (List Chg)
 | .mk k n f bs,v=>if k=5∨k=6 then some (Ug v (.mk k n f bs))else(FM (.mk k n f bs) [] bs v).map fun l=>l.map fun x=>⟨[.mk k n f x.1],[],x.2⟩
def FM:dL→List Box→List Box→Box→Option (List (List Box×Box))
 |_,_,[],_=>none
 |c,pre,b::bs,v=>match Vl b (Sg v c pre.length)with
  |some l=>some (l.map fun x=>(pre++x.1::bs,x.2))
  |none=>FM c (pre++[b]) bs v
end
structure RS where
 n:Nat
 out:List Box
mutual
def UW:Box→Nat
 | .mk _ cs=>F9 cs
def UX:dL→Nat
 | .mk k _ _ bs=>(if 4<k then 1 else 0)+F8 bs
def F8:List Box→Nat
 |[]=>0
 |b::bs=>UW b+F8 bs
def F9:List dL→Nat
 |[]=>0
 |c::cs=>UX c+F9 cs
end
section
variable {P:Program} {G:Nat→List FD} {T:Tbl} {N tag0:Nat} {am:Nat→Bool} {st st2:St} {a:Act} {w:World} {L:Loc} {F:Nat→Nat→Prop} {K:St→Prop} {ops:Array Oper}
def EH (st:St):Prop:=∀tag,st.H (tag,st.n)=none
def pQ:Op→Bool
 | .alloc _=>true
 |_=>false
theorem Xc {o:Oper}{ev:Operand→D}{H:bR}{id:Id}{ob':Option O}{r:D×Prop}(hn:H id=none)(h:jy P T o ev H=some r):jy P T o ev (cp H id ob')=some r:=by
 by_cases hh:nR o.op=true
 ·rw[←h];exact Jm hh
 obtain⟨dst,op,type,pos,after,guard⟩:=o;cases op<;>simp only[nR,not_true_eq_false]at hh;rename_i t x;unfold jy at h ⊢;have key:∀r,gD P ⟨dst,.load t x,type,pos,after,guard⟩ ev H=some r→gD P ⟨dst,.load t x,type,pos,after,guard⟩ ev (cp H id ob')=some r:=by
  intro r h;simp only[gD,B7,ob]at h ⊢;cases hti:cN P t with
  |none=>grind
  |some ti=>
   rw[hti]at h;simp only at h ⊢;cases hd:ev x with
   |ptr i k=>grind[uq,ob,cp]
   |_=>rw[hd]at h;exact h
 grind
theorem P9 {o:Oper}{fr:Nat→D}{H:bR}{n n':Nat}{id:Id}{ob':Option O}{r:D×Prop}(hn:H id=none)(h:qv P G T ops o ⟨fr,H,n⟩=some r):qv P G T ops o ⟨fr,cp H id ob',n'⟩=some r:=by
 have e:St.ev G ⟨fr,cp H id ob',n'⟩=St.ev G ⟨fr,H,n⟩:=by funext x;cases x<;>rfl
 grind[qv,Xc]
theorem RX {oi oj:Oper}{fr:Nat→D}{H:bR}{n:Nat}{d:D}{c:Prop}(hap:oi.apart ops oj=true)(hal:pQ oj.op=true)(hfr:EH ⟨fr,H,n⟩)(hy:qv P G T ops oi ⟨fr,H,n⟩=some (d,c))
  (h:iG P G T N tag0 ops false oj ⟨gO fr oi.dst d,H,n⟩ K):iG P G T N tag0 ops false oj ⟨fr,H,n⟩ (fun s=>qv P G T ops oi s=some (d,c)∧K ⟨gO s.fr oi.dst d,s.H,s.n⟩):=by
 obtain⟨h1,h2,h3⟩:=Oper.apart_spec hap;unfold iG at h ⊢;simp only[bK,cd]at h ⊢;rw[yZ h1]at h;have hyj:∀e,qv P G T ops oi ⟨gO fr oj.dst e,H,n⟩=some (d,c):=by grind[vm]
 split
 ·rename_i hg;simp only[hg]at h;obtain⟨dst,op,type,pos,after,guard⟩:=oj;cases op<;>simp only[pQ,bK]at hal;rename_i e;unfold jN at h ⊢;simp only[gD]at h ⊢;refine⟨h.1,?_⟩;have h':=h.2;split at h'
  ·rename_i ti hti;refine⟨?_,?_⟩
   ·have e1:(St.new ⟨fr,H,n⟩ (tag0+dst.getD 0,n) ⟨ti.zero,true,false⟩ dst (.ptr (tag0+dst.getD 0,n) 0))=⟨gO fr dst (.ptr (tag0+dst.getD 0,n) 0),cp H (tag0+dst.getD 0,n) (some ⟨ti.zero,true,false⟩),n+1⟩:=by cases dst<;>rfl
    rw[e1];exact P9 (n:=n) (hfr _) (hyj _)
   ·have e2:(St.new ⟨gO fr oi.dst d,H,n⟩ (tag0+dst.getD 0,n) ⟨ti.zero,true,false⟩ dst (.ptr (tag0+dst.getD 0,n) 0))=⟨gO (gO fr dst (.ptr (tag0+dst.getD 0,n) 0)) oi.dst d,cp H (tag0+dst.getD 0,n) (some ⟨ti.zero,true,false⟩),n+1⟩:=by have e3:gO (gO fr oi.dst d) dst (.ptr (tag0+dst.getD 0,n) 0)=gO (gO fr dst (.ptr (tag0+dst.getD 0,n) 0)) oi.dst d:=uQ h2;rw[←e3];cases dst<;>rfl
    rw[e2]at h';have e1:(St.new ⟨fr,H,n⟩ (tag0+dst.getD 0,n) ⟨ti.zero,true,false⟩ dst (.ptr (tag0+dst.getD 0,n) 0))=⟨gO fr dst (.ptr (tag0+dst.getD 0,n) 0),cp H (tag0+dst.getD 0,n) (some ⟨ti.zero,true,false⟩),n+1⟩:=by cases dst<;>rfl
    grind
  omega
 all_goals grind[nx,uQ]
theorem B5 {oj:Oper}{b:Bool}{st:St}{K1 K2:St→Prop}(hk:∀s,K1 s→K2 s)(hs:iG P G T N tag0 ops b oj st K1):iG P G T N tag0 ops b oj st K2:=by
 unfold iG at hs ⊢;split
 ·grind
 ·rename_i hq;simp only[hq]at hs;split
  ·rename_i hg;simp[hg]at hs;refine uC (fr:=st.fr) (fr2:=st.fr) ak ?_ hs;rintro s s2 hK ⟨e,H',n',rfl,rfl⟩;grind
  all_goals grind
end
section
variable {P:Program} {G:Nat→List FD} {T:Tbl} {N tag0:Nat} {am:Nat→Bool} {st st2:St} {a:Act} {w:World} {L:Loc} {F:Nat→Nat→Prop} {K:St→Prop} {ops:Array Oper}
def qG (st:St):Prop:=∀id:Id,st.n≤id.2→st.H id=none
theorem qG.s (h:qG st):EH st:=fun tag=>h (tag,st.n) ae
theorem PS {oi oj:Oper}{fr:Nat→D}{H:bR}{n:Nat}{d:D}{c:Prop}(hap:oi.apart ops oj=true)(hal:pQ oj.op=true)(hfr:qG ⟨fr,H,n⟩)(hy:qv P G T ops oi ⟨fr,H,n⟩=some (d,c))
  (h:iG P G T N tag0 ops false oj ⟨gO fr oi.dst d,H,n⟩ K):iG P G T N tag0 ops false oj ⟨fr,H,n⟩ (fun s=>(qv P G T ops oi s=some (d,c)∧K ⟨gO s.fr oi.dst d,s.H,s.n⟩)∧qG s):=by
 have h1:=RX hap hal hfr.s hy h;unfold iG at h1 ⊢;simp only[bK,cd]at h1 ⊢;split
 ·rename_i hg;simp only[hg]at h1;obtain⟨dst,op,type,pos,after,guard⟩:=oj;cases op<;>simp only[pQ,bK]at hal;rename_i e;unfold jN at h1 ⊢;simp only[gD]at h1 ⊢;refine⟨h1.1,?_⟩;have h':=h1.2;split at h'
  ·refine⟨h',fun id hid=>?_⟩;simp only[St.new]at hid ⊢;have hne:id≠(tag0+dst.getD 0,n):=by rintro rfl;simp only at hid;omega
   simp only[cp,hne,cd];exact hfr id ap
  omega
 ·rename_i hg;simp only[hg]at h1;refine⟨h1.1,h1.2,fun id hid=>?_⟩;rw[nx]at hid ⊢;exact hfr id hid
 grind
def HG (ops:Array Oper)(q:Nat→Bool)(i:Nat)(oi:Oper)(B:Nat→Bool)(listed:Array Bool)(st:St):Prop:=
 (∀j oj,ops[j]?=some oj→j≠i→listed.getD j true=false→B j=false→oi.apart ops oj=true)∧
 ((∀j oj,ops[j]?=some oj→j≠i→listed.getD j true=false→B j=false→q j=true∨nR oi.op=true)∨
  (qG st∧∀j oj,ops[j]?=some oj→j≠i→listed.getD j true=false→B j=false→q j=true∨pQ oj.op=true))
theorem WI {q:Nat→Bool}{i:Nat}{oi:Oper}{d:D}{c:Prop}(hi:ops[i]?=some oi)(hqi:q i=true)(hc:c)(hd:fI N oi.dst=true)(B:Nat→Bool)
  (hB:∀j oj,ops[j]?=some oj→B j=true→∃e∈oj.after,Region.binds .any e=true∧(e.on=i∨B e.on=true)):
  ∀(fuel:Nat) (listed:Array Bool) (st:St),(∀j,B j=true→listed.getD j false=false)→HG ops q i oi B listed st→
   i∈Region.ready .any ops listed→qv P G T ops oi st=some (d,c)→
   pN P G T N tag0 ops q K fuel (listed.setIfInBounds i true) (st.put oi.dst d)→pN P G T N tag0 ops q K (fuel+1) listed st:=by
 intro fuel;have take:∀{st K},qv P G T ops oi st=some (d,c)→K (st.put oi.dst d)→iG P G T N tag0 ops (q i) oi st K:=by intro st K hy hK;unfold iG;rw[aF hqi];exact ap
 induction fuel with
 |zero=>
  intro listed st _ _ hr hy H;refine⟨ap,fun j hj oj hoj=>?_⟩;by_cases hji:j=i
  ·grind
  ·have:=eW hj hji;rw[H.1]at this;grind
 |succ fuel ih=>
  intro listed st hBl hfree hr hy H;refine⟨ap,fun j hj oj hoj=>?_⟩;by_cases hji:j=i
  ·grind
  ·have h1:=H.2 j (eW hj hji) oj hoj;obtain⟨hjun,oj',hoj',hall⟩:=iB.1 hj;rw[hoj]at hoj';obtain rfl:=bq hoj';have hnl:listed.getD i false=false:=by
    have h0:=(iB.1 hr).1;rcases aA i listed.size with h'|h'
    ·grind
    ·grind
   have hBj:B j=false:=by
    cases hb:B j with
    |false=>rfl
    |true=>grind
   obtain⟨hap',hh'⟩:=hfree;have hap:=hap' j oj hoj hji hjun hBj;have hBl':∀k,B k=true→(listed.setIfInBounds j true).getD k false=false:=fun k hk=>by
    by_cases hjk:j=k
    all_goals simp_all
   have hsub:∀k,(listed.setIfInBounds j true).getD k true=false→listed.getD k true=false:=fun k hun=>by
    by_cases hjk:j=k
    all_goals simp_all
   have hapn:∀k ok,ops[k]?=some ok→k≠i→(listed.setIfInBounds j true).getD k true=false→B k=false→oi.apart ops ok=true:=ap
   rw[nx]at h1;cases hqj:q j with
   |true=>
    have hfree':∀s:St,s.H=st.H→s.n=st.n→HG ops q i oi B (listed.setIfInBounds j true) s:=fun s e1 e2=>by
     refine⟨hapn,?_⟩;rcases hh' with g|⟨g1,g2⟩
     ·grind
     ·exact .inr ⟨fun id hid=>by rw[e1];exact g1 id ae,ap⟩
    rw[hqj]at h1;have h2:=C1 hap (.inl rfl) (fr:=st.fr) (H:=st.H) (n:=st.n) hy h1;unfold iG at h2 ⊢;simp only[cJ]at h2 ⊢;obtain⟨e,c',g1,g2,g3,g4,g5⟩:=h2;refine⟨e,c',g1,g2,g3,?_⟩;rw[nx]at g4 g5 ⊢;refine ih (listed.setIfInBounds j true) _ hBl' ap (eW hr (Ne.symm hji)) g4 ?_;grind[Array.setIfInBounds_comm,nx]
   |false=>
    rw[hqj]at h1;rcases hh' with g|⟨g1,g2⟩
    ·have hin:nR oi.op=true:=by
      rcases g j oj hoj hji hjun hBj with g|g
      ·grind
      ·exact g
     have h2:=C1 hap (.inr hin) (fr:=st.fr) (H:=st.H) (n:=st.n) hy h1;refine B5 (fun s h3=>ih (listed.setIfInBounds j true) s hBl' ⟨hapn,ap⟩ (eW hr (Ne.symm hji)) h3.1 ?_) h2;grind[Array.setIfInBounds_comm,nx]
    ·have hal:pQ oj.op=true:=by
      rcases g2 j oj hoj hji hjun hBj with g|g
      ·grind
      ·exact g
     have h2:=PS hap hal (fr:=st.fr) (H:=st.H) (n:=st.n) g1 hy h1;refine B5 (fun s h3=>ih (listed.setIfInBounds j true) s hBl' ⟨hapn,ap⟩ (eW hr (Ne.symm hji)) h3.1.1 ?_) h2;grind[Array.setIfInBounds_comm,nx]
def xS (am:Nat→Bool)(T:Tbl)(ops:Array Oper)(listed:Array Bool)(fl:Bool)(i:Nat):Bool:=
 match ops[i]? with
 |none=>false
 |some oi=>
  jM am T oi&&((jU ops i).all fun j=> !listed.getD j false&&match ops[j]? with
   |some oj=>oj.after.any (fun e=>Region.binds .any e&&(e.on==i||(jU ops i).contains e.on))
   |none=>true)&&
  ((List.range ops.size).all fun j=>j==i||listed.getD j true||(jU ops i).contains j||match ops[j]? with
   |some oj=>oi.apart ops oj&&(jM am T oj||nR oi.op||(fl&&pQ oj.op))
   |none=>true)
theorem XI {listed:Array Bool}{i:Nat}{oi:Oper}{fl:Bool}(hi:ops[i]?=some oi)(h:xS am T ops listed fl i=true)(hfl:fl=true→qG st):
  jM am T oi=true∧(∀j oj,ops[j]?=some oj→(jU ops i).contains j=true→∃e∈oj.after,Region.binds .any e=true∧(e.on=i∨(jU ops i).contains e.on=true))∧
  (∀j,(jU ops i).contains j=true→listed.getD j false=false)∧
  HG ops (fun i=>((ops[i]?).map (jM am T)).getD false) i oi (fun j=>(jU ops i).contains j) listed st:=by
 unfold xS at h;rw[hi]at h;simp only[aS]at h;generalize jU ops i=B at*;obtain⟨⟨hq,hB⟩,h⟩:=h;rw[cB]at hB h;have key:∀j oj,ops[j]?=some oj→j≠i→listed.getD j true=false→B.contains j=false→oi.apart ops oj=true∧((jM am T oj=true∨nR oi.op=true)∨fl=true∧pQ oj.op=true):=ap
 refine⟨hq,ap,fun j hb=>?_,ap,?_⟩
 all_goals grind
def wj (am:Nat→Bool)(T:Tbl)(ops:Array Oper)(i:Nat):Bool:=
 match ops[i]? with
 |some o=>jM am T o||pQ o.op
 |none=>false
mutual
def FE (am:Nat→Bool)(T:Tbl)(ops:Array Oper):Tr→Array Bool→Bool→Bool
 | .leaf,listed,_=>(Region.ready .any ops listed).isEmpty
 | .node l,listed,fl=> !(Region.ready .any ops listed).isEmpty&&(SR am T ops l listed fl||Fe am T ops l listed fl (Region.ready .any ops listed))
def SR (am:Nat→Bool)(T:Tbl)(ops:Array Oper):Trs→Array Bool→Bool→Bool
 | .cons i t .nil,listed,fl=>(Region.ready .any ops listed).contains i&&xS am T ops listed fl i&&FE am T ops t (listed.setIfInBounds i true) fl
 |_,_,_=>false
def Fe (am:Nat→Bool)(T:Tbl)(ops:Array Oper):Trs→Array Bool→Bool→List Nat→Bool
 | .nil,_,_,r=>r.isEmpty
 | .cons i t l,listed,fl,r=>(match r with
   |j::r'=>(i==j)&&FE am T ops t (listed.setIfInBounds i true) (fl&&wj am T ops i)&&Fe am T ops l listed fl r'
   |[]=>false)
end
end
theorem Ri {P:Program}{G:Nat→List FD}{N:Nat}{c:Code}{st:St}{q:Exit→St→Prop}{ι:Type}(I:ι→St)(h:∀i,q .normal (I i))(h2:@WK P G N c st ⟨fun e s=>e= .normal∧∃i,gH G N s (I i)⟩):@WK P G N c st ⟨q⟩:=by unfold WK at h2 ⊢;intro a w L F hr;refine jS (h2 a w L F hr) fun e a' w' hs=>?_;obtain⟨s,L1,F1,⟨rfl,i,hw⟩,g2,g3⟩:=hs;obtain⟨L2,F2,g4,g5⟩:=hw a' w' L1 F1 g2;exact⟨I i,L2,F2,h i,g4,dH.trans g3 g5⟩
section
variable {P:Program} {G:Nat→List FD} {T:Tbl} {N tag0:Nat} {am:Nat→Bool} {st:St} {a:Act} {w:World} {L:Loc} {F:Nat→Nat→Prop} {K:St→Prop} {ops:Array Oper}
theorem zF {id:Id}{t:Nat}{ys:List FD}{b:Bool}(ho:st.H id=some ⟨ys.map .fz,b,false⟩)(hs:st.fr t= .ptr id 0):gH G N st ⟨upd st.fr t (.rp ys),cp st.H id none,st.n⟩:=by
 intro a w L F h;obtain⟨hu,hob⟩:=h.ok.live id _ ho;have hv3:(L id).3=false:=by
  cases e:(L id).3 with
  |false=>rfl
  |true=>simp_all[iT]
 obtain⟨hnF,cs,T,hcs,hsz,hcell⟩:=iL hob hv3;have hlt:(L id).1<w.heap.size:=by
  rcases aA (L id).1 w.heap.size with h|h
  ·exact h
  ·grind
 obtain⟨F',hF'⟩:∃F':Nat→Nat→Prop,F'=fun b k=>F b k∨(b=(L id).1∧(L id).2≤k):=⟨_,rfl⟩;have hsub:∀b k,F b k→F' b k:=ap
 have e:Ext w L F (Ub st.n) w L F' (Ub st.n):=⟨fun _ h=>h,fun _ _=>rfl,hsub,ak,aI _,ap⟩;have hold:∀id' o',cp st.H id none id'=some o'→id'≠id∧st.H id'=some o':=by simp_all[cp]
 refine⟨L,F',⟨⟨fun b k hb=>?_,fun id' o' h1=>?_,fun i1 i2 o1 o2 h1 h2=>h.ok.inj i1 i2 o1 o2 ap ap,rH hsub ak h.ok.glob⟩,h.size,fun s=>?_,h.nd⟩,
  fun _ h=>h,fun _ _=>rfl,hsub,aI _,ak,ak,ap,fun b k hb=>?_,fun b k hb=>?_,rfl,rfl,rfl,aI _⟩
 ·rw[hF']at hb;rcases hb with hb|⟨rfl,_⟩
  ·exact h.ok.fb b k hb
  omega
 ·obtain⟨hne,h2⟩:=hold _ _ h1;obtain⟨h3,h4⟩:=h.ok.live id' o' h2;refine⟨h3,h4.ext e h3 fun hv=>⟨rfl,fun k hk hb=>?_⟩⟩;rw[hF']at hb;rcases hb with hb|⟨hb,_⟩
  ·grind[iL]
  ·exact hne (h.ok.inj id' id _ _ h2 ho hv hv3 hb)
 ·simp only[upd];split
  ·rename_i hst;subst hst;have hv:=h.fr s;rw[hs]at hv;simp only[bw]at hv ⊢;refine⟨(L id).1,(L id).2+0,hv.2.2,fun j hj=>⟨ap,?_⟩⟩;obtain⟨u,hu1,hu2⟩:=hcell j ap;refine⟨u,by rw[nA hcs,bJ];omega,?_⟩;rw[yo _ _ hj]at hu2;simp only[bw]at hu2;exact hu2.mono ak hsub
  ·exact(h.fr s).ext e
 ·rw[hF']at hb;rcases hb with hb|⟨rfl,hk⟩
  ·grind
  ·exact .inr (.inr ⟨id,_,ho,hv3,rfl,hk⟩)
 ·obtain⟨id',o',h1,h2,h3,h4⟩:=hb;exact .inr ⟨id',o',ap,h2,h3,h4⟩
def un (P:Program)(G:Nat→List FD)(T:Tbl)(ops:Array Oper)(oi:Oper)(fr:Nat→D)(r:D×Prop):Prop:=∀H n,qv P G T ops oi ⟨fr,H,n⟩=some r
theorem ZG {oi oj:Oper}{q:Bool}{fr:Nat→D}{H:bR}{n:Nat}{d:D}{c:Prop}(hap:oi.apart ops oj=true)(hy:un P G T ops oi fr (d,c))
  (h:iG P G T N tag0 ops q oj ⟨gO fr oi.dst d,H,n⟩ K):iG P G T N tag0 ops q oj ⟨fr,H,n⟩ (fun s=>un P G T ops oi s.fr (d,c)∧K ⟨gO s.fr oi.dst d,s.H,s.n⟩):=by
 obtain⟨h1,h2,h3⟩:=Oper.apart_spec hap;unfold iG at h ⊢;have eput:∀(e:D),(St.put ⟨fr,H,n⟩ oj.dst e)=⟨gO fr oj.dst e,H,n⟩:=fun e=>nx;have eput2:∀(e:D),(St.put ⟨gO fr oi.dst d,H,n⟩ oj.dst e)=⟨gO (gO fr oj.dst e) oi.dst d,H,n⟩:=by grind[nx,uQ]
 have hyj:∀e,un P G T ops oi (gO fr oj.dst e) (d,c):=fun e H' n'=>(vm (H:=H') (n:=n') h3 (.inl rfl)).trans (hy H' n');split
 ·rename_i hq;simp only[hq,cJ]at h;grind[vm]
 ·rename_i hq;simp only[hq]at h;simp only at h ⊢;rw[yZ h1]at h;split
  ·rename_i hg;simp only[hg]at h;refine uC (fr2:=fr) (DK h1) ?_ h;rintro s s2 hK ⟨e,H',n',rfl,rfl⟩;grind[uQ]
  all_goals grind
theorem WJ {q:Nat→Bool}{i:Nat}{oi:Oper}{d:D}{c:Prop}(hi:ops[i]?=some oi)(hqi:q i=true)(hc:c)(hd:fI N oi.dst=true)(B:Nat→Bool)
  (hB:∀j oj,ops[j]?=some oj→B j=true→∃e∈oj.after,Region.binds .any e=true∧(e.on=i∨B e.on=true)):
  ∀(fuel:Nat) (listed:Array Bool) (st:St),(∀j,B j=true→listed.getD j false=false)→
   (∀j oj,ops[j]?=some oj→j≠i→listed.getD j true=false→B j=false→oi.apart ops oj=true)→
   i∈Region.ready .any ops listed→un P G T ops oi st.fr (d,c)→
   pN P G T N tag0 ops q K fuel (listed.setIfInBounds i true) (st.put oi.dst d)→pN P G T N tag0 ops q K (fuel+1) listed st:=by
 intro fuel;have take:∀{st K},un P G T ops oi st.fr (d,c)→K (st.put oi.dst d)→iG P G T N tag0 ops (q i) oi st K:=by intro st K hy hK;unfold iG;rw[aF hqi];exact⟨d,c,hy st.H st.n,hd,hc,hK⟩
 induction fuel with
 |zero=>
  intro listed st _ _ hr hy H;refine⟨fun h=>(by rw[h]at hr;cases hr),fun j hj oj hoj=>?_⟩;by_cases hji:j=i
  ·subst hji;rw[hi]at hoj;obtain rfl:=bq hoj;exact take hy H
  ·have:=eW hj hji;rw[H.1]at this;cases this
 |succ fuel ih=>
  intro listed st hBl hfree hr hy H;refine⟨fun h=>(by rw[h]at hr;cases hr),fun j hj oj hoj=>?_⟩;by_cases hji:j=i
  ·subst hji;rw[hi]at hoj;obtain rfl:=bq hoj;exact take hy H
  ·have h1:=H.2 j (eW hj hji) oj hoj;obtain⟨hjun,oj',hoj',hall⟩:=iB.1 hj;rw[hoj]at hoj';obtain rfl:=bq hoj';have hnl:listed.getD i false=false:=by
    have h0:=(iB.1 hr).1;rcases aA i listed.size with h'|h'
    ·simp[h']at h0 ⊢;exact h0
    ·simp[fX h']
   have hBj:B j=false:=by
    cases hb:B j with
    |false=>rfl
    |true=>
     obtain⟨e,he,hbe,h3⟩:=hB j oj hoj hb;have h4:=hall e he hbe;rcases h3 with h3|h3
     ·rw[h3,hnl]at h4;cases h4
     ·rw[hBl _ h3]at h4;cases h4
   have hap:=hfree j oj hoj hji hjun hBj;have hBl':∀k,B k=true→(listed.setIfInBounds j true).getD k false=false:=fun k hk=>by
    by_cases hjk:j=k
    ·subst hjk;rw[hBj]at hk;cases hk
    ·rw[getD_set_ne false hjk];exact hBl k hk
   have hfree':∀k ok,ops[k]?=some ok→k≠i→(listed.setIfInBounds j true).getD k true=false→B k=false→oi.apart ops ok=true:=fun k ok hk hki hun hno=>by
    refine hfree k ok hk hki ?_ hno;by_cases hjk:j=k
    ·subst hjk;exact hjun
    ·rw[getD_set_ne true hjk]at hun;exact hun
   rw[nx]at h1;have h2:=ZG hap (fr:=st.fr) (H:=st.H) (n:=st.n) hy h1;refine B5 (fun s h3=>ih (listed.setIfInBounds j true) s hBl' hfree' (eW hr (Ne.symm hji)) h3.1 ?_) h2;rw[ew _ _ hji,nx];exact h3.2
inductive Tv where
 |leaf
 |q (i:Nat) (t:Tv)
 |r (i:Nat) (t:Tv)
 |br (l:List (Nat×Tv))
def RpC (st:St)(G:Nat→List FD):Option Oper→Prop
 |some ⟨_,.load _ x,_,_,_,_⟩=>∃xs,st.ev G x= .rp xs
 |_=>False
theorem RpC.all {oi:Oper}{r:D×Prop}(hr:RpC st G (some oi))(h:qv P G T ops oi st=some r):un P G T ops oi st.fr r:=by
 obtain⟨dst,op,type,pos,after,guard⟩:=oi;cases op<;>simp only[RpC]at hr;rename_i t x;obtain⟨xs,hx⟩:=hr;intro H n;unfold qv at h ⊢;simp only at h ⊢;cases hg:nC ops st.fr guard with
 |none=>grind
 |some b=>
  rw[hg]at h;cases b with
  |false=>exact h
  |true=>
   simp only at h ⊢;have e:St.ev G ⟨st.fr,H,n⟩=St.ev G st:=by funext x;cases x<;>rfl
   rw[e];have key:gD P ⟨dst,.load t x,type,pos,after,guard⟩ (St.ev G st) H=gD P ⟨dst,.load t x,type,pos,after,guard⟩ (St.ev G st) st.H:=by
    simp only[gD,B7,hx,ob];cases cN P t with
    |none=>rfl
    |some ti=>rfl
   simp_all[jy]
section
variable (P:Program) (G:Nat→List FD) (T:Tbl) (N tag0:Nat) (am:Nat→Bool) (ops:Array Oper)
mutual
def nh:Tv→(St→Prop)→St→Prop
 | .leaf,K,st=>K st
 | .q i t,K,st=>sM P G T N tag0 am ops ops[i]? (nh t K) st
 | .r i t,K,st=>Req (RpC st G ops[i]?) (sM P G T N tag0 am ops ops[i]? (nh t K) st)
 | .br l,K,st=>vI l K st
def vI:List (Nat×Tv)→(St→Prop)→St→Prop
 |[],_,_=>True
 |(i,t)::l,K,st=>sM P G T N tag0 am ops ops[i]? (nh t K) st∧vI l K st
end
end
mutual
def oe (am:Nat→Bool)(T:Tbl)(ops:Array Oper):Tv→Array Bool→Bool→Bool
 | .leaf,listed,_=>(Region.ready .any ops listed).isEmpty
 | .q i t,listed,fl=>(Region.ready .any ops listed).contains i&&xS am T ops listed fl i&&oe am T ops t (listed.setIfInBounds i true) fl
 | .r i t,listed,fl=>(Region.ready .any ops listed).contains i&&AD am T ops listed i&&oe am T ops t (listed.setIfInBounds i true) fl
 | .br l,listed,fl=> !(Region.ready .any ops listed).isEmpty&&xG am T ops l listed fl (Region.ready .any ops listed)
def xG (am:Nat→Bool)(T:Tbl)(ops:Array Oper):List (Nat×Tv)→Array Bool→Bool→List Nat→Bool
 |[],_,_,r=>r.isEmpty
 |(i,t)::l,listed,fl,r=>(match r with
   |j::r'=>(i==j)&&oe am T ops t (listed.setIfInBounds i true) (fl&&wj am T ops i)&&xG am T ops l listed fl r'
   |[]=>false)
def AD (am:Nat→Bool)(T:Tbl)(ops:Array Oper)(listed:Array Bool)(i:Nat):Bool:=
 match ops[i]? with
 |none=>false
 |some oi=>
  jM am T oi&&((jU ops i).all fun j=> !listed.getD j false&&match ops[j]? with
   |some oj=>oj.after.any (fun e=>Region.binds .any e&&(e.on==i||(jU ops i).contains e.on))
   |none=>true)&&
  ((List.range ops.size).all fun j=>j==i||listed.getD j true||(jU ops i).contains j||match ops[j]? with
   |some oj=>oi.apart ops oj
   |none=>true)
end
mutual
def ny:Tv→Nat
 | .leaf=>0
 | .q _ t=>ny t+1
 | .r _ t=>ny t+1
 | .br l=>xn l+1
def xn:List (Nat×Tv)→Nat
 |[]=>0
 |(_,t)::l=>max (ny t) (xn l)
end
theorem XJ {listed:Array Bool}{i:Nat}{oi:Oper}(hi:ops[i]?=some oi)(h:AD am T ops listed i=true):
  jM am T oi=true∧(∀j oj,ops[j]?=some oj→(jU ops i).contains j=true→∃e∈oj.after,Region.binds .any e=true∧(e.on=i∨(jU ops i).contains e.on=true))∧
  (∀j,(jU ops i).contains j=true→listed.getD j false=false)∧
  (∀j oj,ops[j]?=some oj→j≠i→listed.getD j true=false→(jU ops i).contains j=false→oi.apart ops oj=true):=by
 unfold AD at h;grind
theorem Lz:∀(l:List (Nat×Tv)) (listed:Array Bool) (fl:Bool) (r:List Nat) (st:St),xG am T ops l listed fl r=true→vI P G T N tag0 am ops l K st→∀i∈r,∃t,oe am T ops t (listed.setIfInBounds i true) (fl&&wj am T ops i)=true∧ny t≤xn l∧sM P G T N tag0 am ops ops[i]? (nh P G T N tag0 am ops t K) st
 |[],listed,fl,r,st,h,_,i,hi=>by simp_all[xG]
 |(j,t)::l,listed,fl,r,st,h,hs,i,hi=>by
  cases r with
  |nil=>grind
  |cons a r=>
   simp only[xG,aS,beq_iff_eq]at h;obtain⟨⟨rfl,h1⟩,h2⟩:=h;simp only[vI]at hs;rcases aV.1 hi with rfl|hi
   ·grind[xn]
   grind[xn,Lz l listed fl r st h2 hs.2 i hi]
theorem Cg {o:Oper}(hq:jM am T o=true){k:St→Prop}(hs:sM P G T N tag0 am ops (some o) k st):∃d c,qv P G T ops o st=some (d,c)∧fI N o.dst=true∧c∧k (st.put o.dst d):=by
 obtain⟨o',ho',hs1⟩:=iM hs;obtain rfl:=bq ho';obtain⟨b,hb,g1,g2⟩:=iM hs1;cases b with
 |true=>grind[Gt,qv]
 |false=>obtain⟨k1,k2⟩:=g2 rfl;exact⟨.tup [],True,by simp only[qv,hb],k1,trivial,k2⟩
theorem MH (hT:b9 P G T):∀(fuel:Nat) (t:Tv) (listed:Array Bool) (fl:Bool) (st:St),(fl=true→qG st)→oe am T ops t listed fl=true→ny t≤fuel→nh P G T N tag0 am ops t K st→
  pN P G T N tag0 ops (fun i=>((ops[i]?).map (jM am T)).getD false) K fuel listed st:=by
 intro fuel;induction fuel with
 |zero=>
  intro t listed fl st hfl h hd hs;cases t with
  |leaf=>simp only[oe,cK]at h;simp only[nh]at hs;exact⟨h,hs⟩
  |q i t=>simp[ny]at hd
  |r i t=>simp[ny]at hd
  |br l=>simp[ny]at hd
 |succ fuel ih=>
  intro t listed fl st hfl h hd hs;have hput:∀{o:Oper} {d:D},(fl=true→qG (st.put o.dst d)):=fun{o d} e id hid=>by rw[nx]at hid ⊢;exact hfl e id hid
  cases t with
  |leaf=>simp only[oe,cK]at h;simp only[nh]at hs;exact⟨fun _=>hs,ap⟩
  |q i t=>simp only[oe,aS]at h;obtain⟨⟨h1,h2⟩,h3⟩:=h;simp only[nh]at hs;simp only[ny]at hd;obtain⟨o,ho,_⟩:=iM hs;obtain⟨hq,f1,f2,f3⟩:=XI ho h2 hfl;grind[Cg,WI]
  |r i t=>simp only[oe,aS]at h;obtain⟨⟨h1,h2⟩,h3⟩:=h;simp only[nh]at hs;simp only[ny]at hd;obtain⟨hr,hs⟩:=hs;obtain⟨o,ho,_⟩:=iM hs;obtain⟨hq,f1,f2,f3⟩:=XJ ho h2;rw[ho]at hs hr;obtain⟨d,c,k1,k2,k3,k4⟩:=Cg hq hs;exact WJ ho ap k3 k2 (fun j=>(jU ops i).contains j) f1 fuel listed st f2 f3 ap (RpC.all hr k1) ap
  |br l=>
   simp only[oe,aS]at h;obtain⟨h0,h⟩:=h;simp only[nh]at hs;simp only[ny]at hd;refine⟨fun hr=>?_,fun i hi o ho=>?_⟩
   ·grind
   ·obtain⟨t',h1,h2,h3⟩:=Lz l listed fl _ st h hs i hi;rw[ho]at h3;cases hq:jM am T o with
    |true=>
     have hqk:((ops[i]?).map (jM am T)).getD false=true:=by rw[ho];exact hq
     simp only[hqk];obtain⟨d,c,k1,k2,k3,k4⟩:=Cg hq h3;unfold iG;grind
    |false=>
     obtain⟨o',ho',h3'⟩:=iM h3;obtain rfl:=bq ho';obtain⟨b,hb,g1,g2⟩:=iM h3';have hqk:((ops[i]?).map (jM am T)).getD false=false:=by rw[ho];exact hq
     have hcalm:wj am T ops i=pQ o.op:=by unfold wj;rw[ho];simp only[hq,da]
     rw[hcalm]at h1;simp only[hqk];unfold iG;simp only[bK,cd,hb];cases b with
     |true=>
      have hsym:=z7 hT o (g1 rfl);cases hal:pQ o.op with
      |false=>rw[hal,eK]at h1;refine uC (fr:=st.fr) (fr2:=st.fr) (K:=fun s=>nh P G T N tag0 am ops t' K s) ak ?_ hsym;rintro s s2 hK ⟨e,H',n',rfl,rfl⟩;grind
      |true=>
       obtain⟨dst,op,type,pos,after,guard⟩:=o;cases op<;>simp only[pQ,bK]at hal;rename_i e;unfold jN at hsym ⊢;simp only[gD]at hsym ⊢;refine⟨hsym.1,?_⟩;have h':=hsym.2;split at h'
       ·refine ih t' _ _ _ (fun e=>?_) h1 ae h';simp only[aS]at e;intro id hid;simp only[St.new]at hid ⊢;have hne:id≠(tag0+dst.getD 0,st.n):=by rintro rfl;simp only at hid;omega
        simp only[cp,hne,cd];have hH:(St.put st dst (.ptr (tag0+dst.getD 0,st.n) 0)).H=st.H:=by cases dst<;>rfl
        exact hfl e.1 id ae
       omega
     |false=>obtain⟨e1,e2⟩:=g2 rfl;grind
theorem Rj (hm:P.follows .mixedOrders=true)(hT:b9 P G T){Q:Exit→St→Prop}{id:Nat}(t:Tv)(ht:oe am T ops t (Array.replicate ops.size false) true=true)(hd:decide (ny t≤ops.size)=true)(h:nh P G T N tag0 am ops t (Q .normal) st):W P G N (.region id ops true) Q st:=by
 intro a w L F hr;refine wp_region_any hm ?_;have hr':Rel G N st a {w with drawn:=w.drawn+1} L F:=⟨hr.ok.heap rfl,hr.size,fun t=>(hr.fr t).ext (by grind[zd]),hr.nd⟩;have hst:oY st w L F st {w with drawn:=w.drawn+1} L F:=⟨fun _ h=>h,fun _ _=>rfl,fun _ _ h=>h,aI _,ak,fun _ _ _ _=>rfl,ap,ap,ap,rfl,rfl,rfl,Nat.le_succ _⟩;have hfr:qG st:=fun id hid=>by
  cases ho:st.H id with
  |none=>rfl
  |some o=>exact absurd (hr.ok.live _ o ho).1 (Nat.not_lt.2 hid)
 exact Ds hT (Q':=fun e a' w'=>Sat G N st w L F (Q e) a' w') _ _ st a _ L F hr' (MH hT ops.size t _ true st (fun _=>hfr) ht ap h) (fun _ _ hs=>hs.trans hst)
end
def mX (P:Program)(G:Nat→List FD)(T:Tbl)(N tag0:Nat)(am:Nat→Bool)(ops:Array Oper)(t:Tv)(st:St)[k:Kn St]:Prop:=nh P G T N tag0 am ops t k.run st
def tI (P:Program)(G:Nat→List FD)(T:Tbl)(N tag0:Nat)(am:Nat→Bool)(ops:Array Oper)(l:List (Nat×Tv))(st:St)[k:Kn St]:Prop:=vI P G T N tag0 am ops l k.run st
section
variable {P:Program} {G:Nat→List FD} {T:Tbl} {N tag0:Nat} {am:Nat→Bool} {ops:Array Oper} {st:St} {k:St→Prop} {t:Tv} {l:List (Nat×Tv)} {i:Nat} {o:Oper}
@[go_sem] theorem zLh:@mX P G T N tag0 am ops .leaf st ⟨k⟩=k st:=by unfold mX;rw[nh];rfl
@[go_sem] theorem zRH:@mX P G T N tag0 am ops (.q i t) st ⟨k⟩=@qE P G T N tag0 am ops ops[i]? st ⟨fun st=>@mX P G T N tag0 am ops t st ⟨k⟩⟩:=by simp[mX,qE,nh]
@[go_sem] theorem zRI:@mX P G T N tag0 am ops (.r i t) st ⟨k⟩=@lT (RpC st G ops[i]?) ⟨@qE P G T N tag0 am ops ops[i]? st ⟨fun st=>@mX P G T N tag0 am ops t st ⟨k⟩⟩⟩:=by simp[mX,qE,lT,nh]
@[go_sem] theorem zPr:@mX P G T N tag0 am ops (.br l) st ⟨k⟩=@tI P G T N tag0 am ops l st ⟨k⟩:=by unfold mX tI;rw[nh]
@[go_sem] theorem zLi:@tI P G T N tag0 am ops [] st ⟨k⟩=True:=by unfold tI;rw[vI]
@[go_sem] theorem zIP:@tI P G T N tag0 am ops ((i,t)::l) st ⟨k⟩=(@qE P G T N tag0 am ops ops[i]? st ⟨fun st=>@mX P G T N tag0 am ops t st ⟨k⟩⟩∧@tI P G T N tag0 am ops l st ⟨k⟩):=by unfold tI qE;rfl
@[go_sem] theorem zRE {dst:Option Tmp}{t:TypeId}{x:Operand}{ty:TypeId}{pos:String}{after:Array Edge}{guard:Option (Nat×Bool)}:RpC st G (some ⟨dst,.load t x,ty,pos,after,guard⟩)=∃xs,st.ev G x= .rp xs:=rfl
@[go_sem] theorem zNi {xs:List FD}:(∃ys,D.rp xs= .rp ys)=True:=ak
theorem VF (hm:P.follows .mixedOrders=true)(hT:b9 P G T){q:Exit→St→Prop}{id:Nat}(tag0:Nat)(am:Nat→Bool)(t:Tv)
  (ht:oe am T ops t (Array.replicate ops.size false) true=true)(hd:decide (ny t≤ops.size)=true)(h:@mX P G T N tag0 am ops t st ⟨q .normal⟩):@WK P G N (.region id ops true) st ⟨q⟩:=by
 grind[WK,mX,Rj]
theorem ru (hm:P.follows .mixedOrders=true)(hT:b9 P G T){q:Exit→St→Prop}{id:Nat}(tag0:Nat)(am:Nat→Bool)(t:Tv)(h:@mX P G T N tag0 am ops t st ⟨q .normal⟩)(ht:oe am T ops t (Array.replicate ops.size false) true=true:=by(kernel_rfl))(hd:decide (ny t≤ops.size)=true:=by(kernel_rfl)):@WK P G N (.region id ops true) st ⟨q⟩:=VF hm hT tag0 am t ht hd h
theorem fa {c:Code}{st':St}{q:Exit→St→Prop}(h:gH G N st st')(h2:@WK P G N c st' ⟨q⟩):@WK P G N c st ⟨q⟩:=by unfold WK at h2 ⊢;intro a w L F hr;obtain⟨L2,F2,g1,g2⟩:=h a w L F hr;exact jS (h2 a w L2 F2 g1) fun e a' w' hs=>hs.trans g2
end
attribute [irreducible] mX tI
section
variable {P:Program} {G:Nat→List FD} {w w':World} {L:Loc} {F:Nat→Nat→Prop} {U:Id→Prop} {H:bR}
theorem DM (hok:OkW G w L F U H)(os:Array Obj)(hh:w'.heap=w.heap++os)(ho:w'.os=w.os)(ht:w'.tape=w.tape)(hu:w'.output=w.output)(hdr:w.drawn≤w'.drawn):
  OkW G w' L F U H∧dH H w L F U H w' L F U:=by
 have old:∀{b},b<w.heap.size→w'.heap[b]?=w.heap[b]?:=ap
 have hst:dH H w L F U H w' L F U:=by refine⟨fun _ h=>h,fun _ _=>rfl,fun _ _ h=>h,ap,ap,by grind[xk],ap,ap,ap,ho,ht,hu,hdr⟩
 refine⟨⟨fun b k hb=>cO (hok.fb b k hb) hst.size,fun i o h1=>?_,hok.inj,rH (fun _ _ h=>h) (hst.ext hok).fk hok.glob⟩,hst⟩;obtain⟨g1,g2⟩:=hok.live i o h1;exact⟨g1,g2.ext (hst.ext hok) g1 (by grind[iL])⟩
theorem SP (hok:OkW G w L F U H){nm:String}{g:Nat}{k:IntKind}{zs:List Int}(hg:P.globalNamed nm=some g)(hne:zs≠[])(hG:G g=zs.map (.i k)):Lib.TabIs P w nm k zs:=by
 have h0:0<(G g).length:=by rw[hG,aG];exact ap
 obtain⟨_,v,hv,_⟩:=hok.glob.1 g 0 h0;obtain⟨_,cs,T,fr,hb,_⟩:=cell?_some hv;simp only at hb;have hat:∀j,World.at w g j=cs[j]?:=fun j=>nA hb;have hlen:(G g).length=zs.length:=by rw[hG,aG]
 have hsz:cs.size≤zs.length:=by have:=(hok.glob.2 g ap).2;rw[hat,hlen]at this;exact ap
 have hget:∀j (hj:j<zs.length),cs[j]?=some (Value.int k zs[j]):=by intro j hj;obtain⟨_,v,h1,h2⟩:=hok.glob.1 g j ae;rw[hat]at h1;rw[h1];simp only[hG,av,bp,ay hj,bL,bD]at h2;rw[h2.int_inv.1]
 unfold Lib.TabIs World.var?;rw[hg];simp only[nJ,hb,aL];apply fE;grind
theorem HR:∀(u:Nat),(Lib.decDigits u).length≤u+1:=by
 intro u;induction u using Nat.strongRecOn with
 |_ u ih=>grind[Lib.decDigits]
def fV (n:Nat):List UInt8:=Lib.decDigits n
theorem O0 (n:Nat):Lib.itoa (n:Int)=fV n:=by rfl
theorem XM {f:FuncId}{nm:String}{g:Nat}(hc:cW P f)(hg:P.globalNamed nm=some g)(hG:G g=Lib.pow10Tab.map (.i .u64))
  (hk:∀(n:Int), -9223372036854775808≤n→n≤9223372036854775807→∀(w:World),Lib.TabIs P w nm .u64 Lib.pow10Tab→
   Calls P f #[.int .i64 n] w fun e w'=>e= .returned (.string ⟨(Lib.itoa n).toArray⟩)∧∃k os,w'=Sort.grow (w.drewN k) os)
  {n:Int}(h0:0≤n)(h1:n≤1000000000000){H:bR}{m:Nat}:cS P G f [.fz (.i .i64 n)] H m fun d H' m'=>d= .fz (.s (Lib.itoa n))∧H'=H∧m'=m:=by
 refine⟨hc,fun w L F vs hok hvs=>?_⟩;obtain⟨v,rfl,hv⟩:∃v,vs=[v]∧dD w F v (.i .i64 n):=by
  match vs,hvs with
  |[v],h=>simp_all[cA,bw]
  |[],h=>simp[cA]at h
  |_::_::_,h=>simp[cA]at h
 obtain rfl:=hv.int_inv.1;refine(hk n ae ae w (SP hok hg (by simp_all[Lib.pow10Tab]) hG)).mono fun e w' he=>?_;obtain⟨rfl,k,os,rfl⟩:=he;obtain⟨g1,g2⟩:=DM (w':=Sort.grow (w.drewN k) os) hok os rfl rfl rfl rfl (nI _ _);refine⟨_,_,H,m,L,F,rfl,⟨rfl,rfl,rfl⟩,g1,?_,g2⟩;simp only[bw];have hl:(Lib.itoa n).length≤1000000000001:=by unfold Lib.itoa;rw[az ae];have:=HR n.toNat;omega
 have:=dD.s (w:=Sort.grow (w.drewN k) os) (F:=F) ⟨(Lib.itoa n).toArray⟩ (by show((Lib.itoa n).toArray).size≤dt;grind[dt]);omega
abbrev nO (l:List (List UInt8)):List D:=l.map fun x=> .fz (.s x)
theorem Wv {ys:List (List UInt8)}{off:Nat}{cs:Array Value}(h:off+ys.length≤cs.size){j:Nat}(hj:j<ys.length):
  (Sort.putCells Go.Proofs.encStr off ys.toArray cs)[off+j]?=some (Value.string ⟨ys[j].toArray⟩):=by
 grind[Sort.putCells]
theorem Ww {ys:List (List UInt8)}{off:Nat}{cs:Array Value}{k:Nat}(hk:k<off):(Sort.putCells Go.Proofs.encStr off ys.toArray cs)[k]?=cs[k]?:=by grind[Sort.putCells]
theorem Om (hok:OkW G w L F U H){id:Id}{o:O}(ho:H id=some o)(hv:(L id).3=false){cs:Array Value}{T:TypeId}(hb:w.heap[(L id).1]?=some (.cells cs T (0,0)))
  {ys zs:List (List UInt8)}(hlen:(L id).2+ys.length≤cs.size)(hz:zs.length≤ys.length)(hyz:∀j (h:j<zs.length),ys[j]' ae=zs[j])(hmax:∀y∈zs,y.length≤dt){n:Nat}{os:Array Obj}
  (hw:w'=Sort.grow (Sort.putRow Go.Proofs.encStr (Sort.ahead w n) (L id).1 (L id).2 ys.toArray) os):
  OkW G w' L F U (cp H id (some ⟨nO zs,o.box,o.virt⟩))∧dH H w L F U (cp H id (some ⟨nO zs,o.box,o.virt⟩)) w' L F U:=by
 obtain⟨hU,_⟩:=hok.live id o ho;have hH:cp (cp H id none) id (some (⟨nO zs,o.box,o.virt⟩:O))=cp H id (some ⟨nO zs,o.box,o.virt⟩):=by funext i;simp only[cp];split<;>rfl
 have hsz:(Sort.putCells Go.Proofs.encStr (L id).2 ys.toArray cs).size=cs.size:=by simp[Sort.putCells]
 obtain⟨g1,g2⟩:=wV (id':=id) (o':=⟨nO zs,o.box,o.virt⟩) (L':=L) (U':=U) hok ho hv hb hsz (fun k hk=>Ww hk) (fun _ h=>h) hU (fun _ _=>rfl) rfl (aI _) hv (.inl rfl)
  ap (fun j hj=>by simp only[aG]at hj;refine⟨_,Wv hlen ae,?_⟩;simp only[av,bp,ay hj,bL,bD,bw];rw[hyz j hj];have:=dD.s (w:=w) (F:=F) ⟨zs[j].toArray⟩ (by show(zs[j].toArray).size≤dt;grind);omega)
 rw[hH]at g1 g2;have hheap:w'.heap=(js w (L id).1 (.cells (Sort.putCells Go.Proofs.encStr (L id).2 ys.toArray cs) T (0,0))).heap++os:=by
  rw[hw];show(Array.modify w.heap (L id).1 _)++os=_;congr 1;apply fE;intro k;rw[Array.getElem?_modify];simp only[js];by_cases hk:(L id).1=k
  ·subst hk;rw[mo,aF rfl,hb,aF (pe hb)];rfl
  ·grind
 obtain⟨k1,k2⟩:=DM g1 os hheap (by rw[hw];rfl) (by rw[hw];rfl) (by rw[hw];rfl) (by rw[hw];exact nI _ _);exact⟨k1,g2.trans k2⟩
theorem Mj (hok:OkW G w L F U H){id:Id}{ss:List (List UInt8)}{bx vt:Bool}(ho:H id=some ⟨nO ss,bx,vt⟩){v:Value}(hx:bw w L F U (.arr id 1 0 ss.length) v)(hne:ss≠[]):
  ∃cap cs T,v= .slice (some ⟨(L id).1,(L id).2,none⟩) ss.length cap∧ss.length≤cap∧(L id).3=false∧w.heap[(L id).1]?=some (.cells cs T (0,0))∧(L id).2+ss.length≤cs.size∧(∀y∈ss,y.length≤dt)∧
   Sort.Holds Go.Proofs.encStr w (L id).1 (L id).2 ss.toArray:=by
 simp only[bw]at hx;obtain⟨_,a,cap,rfl,h1,h2,h3⟩:=hx;have hpos:0<ss.length:=ap
 rcases h3 with h3|⟨rfl,hv,_,_⟩
 ·omega
 obtain⟨_,cs,T,hb,h4,h5⟩:=iL (hok.live id _ ho).2 hv;simp only[aG]at h4 h5;have h6:∀j (hj:j<ss.length),cs[(L id).2+j]?=some (Value.string ⟨ss[j].toArray⟩)∧ss[j].length≤dt:=by intro j hj;obtain⟨v,e1,e2⟩:=h5 j hj;simp only[av,bp,ay hj,bL,bD,bw]at e2;obtain⟨x,rfl,e3,_,e4⟩:=e2.s_inv;refine⟨?_,e4⟩;rw[e1,←e3]
 refine⟨cap,cs,T,qQi,h1,hv,hb,h4,fun y hy=>?_,fun j hj=>?_⟩
 ·grind[List.getElem_of_mem]
 ·have hj':j<ss.length:=by simpa using hj
  constructor
  ·have:World.at w (L id).1 ((L id).2+j)=cs[(L id).2+j]?:=nA hb;simp_all[World.at]
  simp_all[World.frozen?]
def oC (l:List (List UInt8)):List (List UInt8):=l.mergeSort fun x y=>decide (x≤y)
theorem ry (l:List (List UInt8)):(oC l).Perm l:=List.mergeSort_perm _ _
theorem uP (l:List (List UInt8)):(oC l).length=l.length:=(ry l).length_eq
theorem JC {f:FuncId}(hc:cW P f)
  (hk:∀(blk off cap:Nat) (ss:List (List UInt8)) (w:World),Sort.Holds Go.Proofs.encStr w blk off ss.toArray→blk<w.heap.size→ss.length<4611686018427387904→Calls P f #[.slice (some ⟨blk,off,none⟩) ss.length cap] w fun e w'=>
   e= .returned (.tuple #[])∧∃n os,w'=Sort.grow (Sort.putRow Go.Proofs.encStr (Sort.ahead w n) blk off (ss.mergeSort fun x y=>decide (x≤y)).toArray) os)
  (h0:∀(p:Option Addr) (cap:Nat) (w:World),Calls P f #[.slice p 0 cap] w fun e w'=>e= .returned (.tuple #[])∧w'=w)
  {H:bR}{id:Id}{ss:List (List UInt8)}{bx vt:Bool}{n:Nat}(ho:H id=some ⟨nO ss,bx,vt⟩):
  cS P G f [.arr id 1 0 ss.length] H n fun d H' n'=>d= .tup []∧H'=cp H id (some ⟨nO (oC ss),bx,vt⟩)∧n'=n:=by
 refine⟨hc,fun w L F vs hok hvs=>?_⟩;obtain⟨v,rfl,hv⟩:∃v,vs=[v]∧bw w L F (Ub n) (.arr id 1 0 ss.length) v:=by
  match vs,hvs with
  |[v],h=>simp_all[cA]
  |[],h=>simp[cA]at h
  |_::_::_,h=>simp[cA]at h
 by_cases hne:ss=[]
 ·subst hne;have hv2:=hv;simp only[bw]at hv2;obtain⟨_,a,cap,rfl,_⟩:=hv2;refine(h0 a cap w).mono fun e w' he=>?_;obtain⟨rfl,rfl⟩:=he;have hH:cp H id (some ⟨nO (oC []),bx,vt⟩)=H:=by
   funext i;simp only[cp];split
   ·simp_all[oC]
   ·rfl
  grind[bw,cA,dH.refl]
 ·obtain⟨cap,cs,T,rfl,h1,h2,h3,h4,h5,h6⟩:=Mj hok ho hv hne;have hb:=hok.blk_lt ho h2;have hlen:ss.length<4611686018427387904:=by simp only[bw]at hv;obtain⟨_,a,c,_,_,h,_⟩:=hv;unfold dt at h;omega
  refine(hk _ _ cap ss w h6 hb hlen).mono fun e w' he=>?_;obtain⟨rfl,m,os,hw⟩:=he;obtain⟨g1,g2⟩:=Om hok ho h2 h3 (ys:=oC ss) (zs:=oC ss) (by rw[uP];exact h4) (aI _) (fun _ _=>rfl) (by grind[ry]) hw;grind[bw,cA]
def lD (l:List (List UInt8)):List (List UInt8):=Lib.compact l
theorem sq (l:List (List UInt8)):(lD l).length≤l.length:=by grind[lD,Lib.compact,Lib.compactUpTo]
theorem HH {f:FuncId}(hc:cW P f)
  (hk:∀(blk off cap:Nat) (zs:List (List UInt8)) (w:World),Sort.Holds Go.Proofs.encStr w blk off zs.toArray→zs.length≤9223372036854775807→zs.length≤cap→Calls P f #[.slice (some ⟨blk,off,none⟩) zs.length cap] w fun e w'=>
   e= .returned (.slice (some ⟨blk,off,none⟩) (Lib.compact zs).length cap)∧∃q,w'=Sort.putRow Go.Proofs.encStr (Sort.ahead w q) blk off (Lib.compact zs++List.replicate (zs.length-(Lib.compact zs).length) []).toArray)
  (h0:∀(p:Option Addr) (cap:Nat) (w:World),Calls P f #[.slice p 0 cap] w fun e w'=>e= .returned (.slice p 0 cap)∧w'=w)
  {H:bR}{id:Id}{ss:List (List UInt8)}{bx vt:Bool}{n:Nat}(ho:H id=some ⟨nO ss,bx,vt⟩):
  cS P G f [.arr id 1 0 ss.length] H n fun d H' n'=>d= .arr id 1 0 (lD ss).length∧H'=cp H id (some ⟨nO (lD ss),bx,vt⟩)∧n'=n:=by
 refine⟨hc,fun w L F vs hok hvs=>?_⟩;obtain⟨v,rfl,hv⟩:∃v,vs=[v]∧bw w L F (Ub n) (.arr id 1 0 ss.length) v:=by
  match vs,hvs with
  |[v],h=>simp_all[cA]
  |[],h=>simp[cA]at h
  |_::_::_,h=>simp[cA]at h
 by_cases hne:ss=[]
 ·subst hne;have hv2:=hv;simp only[bw]at hv2;obtain⟨_,a,cap,rfl,_⟩:=hv2;refine(h0 a cap w).mono fun e w' he=>?_;obtain⟨rfl,rfl⟩:=he;have hH:cp H id (some ⟨nO (lD []),bx,vt⟩)=H:=by
   funext i;simp only[cp];split
   ·rename_i e;subst e;rw[ho];rfl
   ·rfl
  exact⟨_,_,H,n,L,F,rfl,⟨rfl,hH.symm,rfl⟩,hok,hv,dH.refl _ _ _ _ _⟩
 ·obtain⟨cap,cs,T,rfl,h1,h2,h3,h4,h5,h6⟩:=Mj hok ho hv hne;have hlen:ss.length≤dt:=by simp only[bw]at hv;obtain⟨_,a,c,_,_,h,_⟩:=hv;exact h
  refine(hk _ _ cap ss w h6 (by grind[dt]) h1).mono fun e w' he=>?_;obtain⟨rfl,q,hw⟩:=he;have hcl:=sq ss;unfold lD at hcl;have hmem:∀y∈lD ss,y∈ss:=by
   intro y hy;unfold lD Lib.compact Lib.compactUpTo at hy;obtain⟨j,hj,rfl⟩:=be.1 hy;have hj':j<ss.length:=ap
   have:(ss.toArray)[j]! =ss[j]:=by simp[hj']
   rw[this];exact ap
  obtain⟨g1,g2⟩:=Om (w':=w') (n:=q) (os:= #[]) hok ho h2 h3 (ys:=Lib.compact ss++List.replicate (ss.length-(Lib.compact ss).length) []) (zs:=lD ss) ap
   (by simp_all[lD]) (fun j hj=>c5 (by simp_all[lD])) ap aq
  refine⟨_,_,_,n,L,F,rfl,⟨rfl,rfl,rfl⟩,g1,?_,g2⟩;have hv2:=bw.ext (g2.ext hok) _ _ hv;simp only[bw]at hv2 ⊢;obtain⟨e1,a,c,e2,e3,e4,e5⟩:=hv2;simp only[Value.slice.injEq]at e2;obtain⟨rfl,_,rfl⟩:=e2;refine⟨e1,_,_,rfl,?_,?_,e5⟩
  all_goals grind[lD]
end
section
variable {G:Nat→List FD} {N:Nat} {st:St}
theorem YO (tag:Nat):gH G N st ⟨st.fr,cp st.H (tag,st.n) (some tok),st.n+1⟩:=by intro a w L F h;obtain⟨g1,g2⟩:=tw h.ok (id:=(tag,st.n)) (U':=Ub (st.n+1)) qQt (by grind[Ub]) qQt false;exact⟨_,F,⟨g1,h.size,fun t=>(h.fr t).ext (g2.ext h.ok),h.nd⟩,g2⟩
theorem YN {id id2:Id}{o:O}{k es:Nat}{xs:List FD}(ho:st.H id=some o)(hv:o.virt=false)(hk:k<o.cells.length)(hc:o.cells.getD k .junk= .full xs)(h2:id2.2<st.n):
  gH G N st ⟨st.fr,cp st.H id (some {o with cells:=o.cells.set k (.ow id2 es xs)}),st.n⟩:=by
 intro a w L F h;have hold:∀i x,cp st.H id (some {o with cells:=o.cells.set k (.ow id2 es xs)}) i=some x→∃y,st.H i=some y:=by grind[cp]
 refine⟨L,F,⟨⟨h.ok.fb,fun i x hx=>?_,fun i1 i2 o1 o2 h1 h2=>?_,h.ok.glob⟩,h.size,h.fr,h.nd⟩,fun _ h=>h,fun _ _=>rfl,fun _ _ h=>h,aI _,fun _ _ _=>rfl,fun _ _ _ _=>rfl,
  ap,ap,fun b k hb=> .inr ?_,rfl,rfl,rfl,aI _⟩
 ·simp only[cp]at hx;split at hx
  ·rename_i e;subst e;simp only[aL]at hx;subst hx;obtain⟨g1,g2⟩:=h.ok.live _ _ ho;refine⟨g1,?_⟩;unfold iT at g2 ⊢;cases e3:(L i).3 with
   |true=>grind
   |false=>
    simp only[e3,bK,cd]at g2 ⊢;obtain⟨q1,cs,T,q2,q3,q4⟩:=g2;refine⟨q1,cs,T,q2,ap,fun j hj=>?_⟩;rw[cY]at hj;obtain⟨v,q5,q6⟩:=q4 j hj;refine⟨v,q5,?_⟩;by_cases e:k=j
    ·subst e;rw[hc]at q6;rw[av,List.getElem?_set_self hk,bD];simp only[bw]at q6 ⊢;obtain⟨a',r1,r2⟩:=q6;exact⟨h2,r2,a',_,r1,.inl rfl⟩
    grind
  ·exact h.ok.live i x hx
 ·obtain⟨y1,h1⟩:=hold _ _ h1;obtain⟨y2,h2⟩:=hold _ _ h2;exact h.ok.inj i1 i2 y1 y2 h1 h2
 ·obtain⟨i,x,h1,h2,h3,h4⟩:=hb;obtain⟨y,h1⟩:=hold _ _ h1;exact⟨i,y,h1,h2,h3,h4⟩
theorem yB {l:List (Nat×D)}{hl:List (Id×Option O)}{X:bR}{n:Nat}(tag:Nat):gH G N ⟨frL l,hpX hl X,n⟩ ⟨frL l,hpX (((tag,n),some tok)::hl) X,n+1⟩:=by have:=YO (G:=G) (N:=N) (st:=⟨frL l,hpX hl X,n⟩) tag;simp_all[AM]
theorem yA {l:List (Nat×D)}{hl:List (Id×Option O)}{X:bR}{n:Nat}{id id2:Id}{cells:List D}{b:Bool}{k es:Nat}{xs:List FD}(ho:hpX hl X id=some ⟨cells,b,false⟩)(hk:k<cells.length)(hc:cells.getD k .junk= .full xs)(h2:id2.2<n):
  gH G N ⟨frL l,hpX hl X,n⟩ ⟨frL l,hpX ((id,some ⟨cells.set k (.ow id2 es xs),b,false⟩)::hl) X,n⟩:=by
 have:=YN (G:=G) (N:=N) (st:=⟨frL l,hpX hl X,n⟩) (es:=es) ho rfl hk hc h2;simp_all[AM]
theorem pj {a b c:St}(h1:gH G N a b)(h2:gH G N b c):gH G N a c:=gH.trans h1 h2
end
mutual
def aH.fit:aH→Bool
 | .mk _ _ w s=>decide (w.length≤1000)&&decide (s.length≤1000)&&aH.fits s
def aH.fits:List aH→Bool
 |[]=>true
 |f::fs=>f.fit&&aH.fits fs
end
theorem aH.fits_mem:∀{l:List aH} {f:aH},aH.fits l=true→f∈l→f.fit=true
 |g::l,f,h,hm=>by
  rw[aH.fits,aS]at h;rcases aV.1 hm with rfl|hm
  ·exact h.1
  ·exact aH.fits_mem h.2 hm
theorem aH.fit_eq {f:aH}(h:f.fit=true):f.words.length≤1000∧f.subs.length≤1000∧aH.fits f.subs=true:=by cases f;rw[aH.fit]at h;simp only[aS,bi]at h;exact⟨h.1.1,h.1.2,h.2⟩
theorem YW {op:Bool}{f:aH}{d:Int}{n:Nat}(h:jV op f d n=0):f.words.length≤1000∧f.subs.length≤1000:=by
 unfold jV at h;split at h
 ·simp at h
 split at h
 ·simp at h
 split at h
 ·simp at h
 rename_i h1 h2 h3;have h4:=bT.1 h3;have h5:iU op f≤2:=by
  unfold iU lz
  repeat'(split<;>try decide)
 have h6:=h4.2;unfold pA at h6;refine⟨?_,ae⟩;split at h6
 ·simp only[bi]at h6;omega
 split at h6
 ·simp only[bi]at h6;omega
 ·simp only[bi]at h6;omega
mutual
theorem Ni {op:Bool}:∀(f:aH) (d:Int) (n:Nat),(chk op f d n).1.code=0→f.fit=true
 | .mk k nm w s,d,n,h=>by
  rw[chk]at h;split at h
  ·rename_i h1;exact absurd h h1
  rename_i h1;have h2:=YW (bT.1 h1);rw[aH.fit];simp only[aS,bi];exact⟨h2,Mt s _ _ h⟩
theorem Mt {op:Bool}:∀(fs:List aH) (d:Int) (n:Nat),(gX op fs d n).1.code=0→aH.fits fs=true
 |[],_,_,_=>by rw[aH.fits]
 |f::fs,d,n,h=>by
  rw[gX]at h;split at h
  ·rename_i h1;exact absurd h h1
  rename_i h1;rw[aH.fits,aS];exact⟨Ni f d n (bT.1 h1),Mt fs _ _ h⟩
end
theorem rB {op:Bool}{f:aH}(h:(dB op f).code=0):f.fit=true:=Ni f 1 0 h
def wx (l:List UInt8):Nat:=l.foldl (fun a d=>a*10+(d.toNat-48)) 0
theorem OP (l:List UInt8)(d:UInt8):wx (l++[d])=wx l*10+(d.toNat-48):=by unfold wx;rw[dq];rfl
theorem Nd {u:Nat}(h:u<10):(UInt8.ofNat (48+u)).toNat-48=u:=by rw[l9,dA ae];omega
theorem JR:∀u,wx (fV u)=u:=by
 intro u;unfold fV;induction u using Nat.strongRecOn with
 |_ u ih=>
  rw[Lib.decDigits];split
  ·rename_i h;have:=Nd h;simpa[wx]using this
  ·rename_i h;rw[OP,ih (u / 10) ae,Nd ae];omega
theorem BO {u v:Nat}(h:fV u=fV v):u=v:=by rw[←JR u,←JR v,h]
theorem ta (u:Nat):(fV u).length≤u+1:=HR u
def gA (k:Nat):Str:=⟨118::fV k⟩
def n9 (k:Nat):Str:=⟨33::fV k⟩
theorem C6 {u v:Nat}(h:gA u=gA v):u=v:=BO (fx (Str.mk.inj h)).2
theorem Pv {u v:Nat}(h:n9 u=n9 v):u=v:=BO (fx (Str.mk.inj h)).2
def iP (w:Str):Prop:=w.l.head? =some 33
instance (w:Str):Decidable (iP w):=inferInstanceAs (Decidable (_=_))
theorem Cc (k:Nat):iP (n9 k):=rfl
theorem HN (k:Nat):¬iP (gA k):=by unfold iP gA;simp
def nV (used:List Str):Nat→Nat→Nat
 |0,k=>k
 |m+1,k=>if gA k∈used then nV used m (k+1)else k
def iy (used:List Str)(k:Nat):Nat:=nV used used.length k
theorem MV (used:List Str):∀m k,k≤nV used m k∧nV used m k≤k+m
 |0,k=>by simp[nV]
 |m+1,k=>by
  rw[nV];split
  ·have:=MV used m (k+1);omega
  ·omega
theorem IR (used:List Str):∀m k i,k≤i→i<nV used m k→gA i∈used
 |0,k,i,h1,h2=>by simp only[nV]at h2;omega
 |m+1,k,i,h1,h2=>by
  rw[nV]at h2;split at h2
  ·rename_i h;rcases dY h1 with rfl|h1
   ·exact h
   ·exact IR used m (k+1) i h1 h2
  ·omega
theorem Jy (used:List Str):∀m k,nV used m k<k+m→gA (nV used m k)∉used
 |0,k,h=>by simp[nV]at h
 |m+1,k,h=>by
  rw[nV]at h ⊢;split
  ·rename_i h1;rw[aF h1]at h;exact Jy used m (k+1) ae
  ·assumption
theorem pig:∀(used:List Str) (S:List Nat),S.Nodup→(∀i∈S,gA i∈used)→S.length≤used.length
 |[],S,_,h=>by
  cases S with
  |nil=>simp
  |cons i S=>have:=h i ak;simp at this
 |u::us,S,hn,h=>by
  by_cases he:∃i∈S,gA i=u
  ·obtain⟨i,hi,rfl⟩:=he;have h1:=pig us (S.erase i) (hn.erase i) fun j hj=>by
    have h2:=(List.Nodup.mem_erase_iff hn).1 hj;rcases aV.1 (h j h2.2)with h3|h3
    ·exact absurd (C6 h3) h2.1
    ·exact h3
   rw[List.length_erase_of_mem hi]at h1;simp only[aN];omega
  ·have h1:=pig us S hn fun j hj=>by
    rcases aV.1 (h j hj)with h3|h3
    ·exact absurd ⟨j,hj,h3⟩ he
    ·exact h3
   simp only[aN];omega
theorem mS (used:List Str)(k:Nat):k≤iy used k∧iy used k≤k+used.length∧gA (iy used k)∉used∧∀i,k≤i→i<iy used k→gA i∈used:=by
 unfold iy;have h1:=MV used used.length k;have h2:=IR used used.length k;refine⟨h1.1,h1.2,?_,h2⟩;rcases aA (nV used used.length k) (k+used.length)with h|h
 ·exact Jy used _ _ h
 ·have he:nV used used.length k=k+used.length:=ae
  intro hin;rw[he]at hin h2;have h3:=pig used (List.range' k (used.length+1)) List.nodup_range' fun i hi=>by
   have:=List.mem_range'_1.1 hi;rcases aA i (k+used.length)with h4|h4
   ·exact h2 i this.1 h4
   ·obtain rfl:i=k+used.length:=ae
    exact hin
  rw[List.length_range']at h3;omega
theorem IU {a b:List Str}(h:∀j,gA j∈a↔gA j∈b)(k:Nat):iy a k=iy b k:=by
 obtain⟨a1,_,a3,a4⟩:=mS a k;obtain⟨b1,_,b3,b4⟩:=mS b k;rcases mO (iy a k) (iy b k)with h1|h1|h1
 ·exact absurd ((h _).2 (b4 _ a1 h1)) a3
 ·exact h1
 ·exact absurd ((h _).1 (a4 _ b1 h1)) b3
theorem MW {used:List Str}{k:Nat}(h:gA k∈used):iy used k=iy used (k+1):=by
 obtain⟨a1,_,a3,a4⟩:=mS used k;obtain⟨b1,_,b3,b4⟩:=mS used (k+1);have h0:iy used k≠k:=by intro e;rw[e]at a3;exact a3 h
 rcases mO (iy used k) (iy used (k+1))with h1|h1|h1
 ·exact absurd (b4 _ ae h1) a3
 ·exact h1
 ·exact absurd (a4 _ ae h1) b3
theorem K0 {used:List Str}{k:Nat}(h:gA k∉used):iy used k=k:=by
 obtain⟨a1,_,a3,a4⟩:=mS used k;rcases dY a1 with h1|h1
 ·exact h1.symm
 ·exact absurd (a4 k (aI _) h1) h
structure cX where
 fr:Str
 to:Str
 deriving DecidableEq,Inhabited
instance:Enc cX:=⟨fun b=> .agg [.s b.fr.l,.s b.to.l],fun x=>match x with| .agg [.s a,.s b]=>⟨⟨a⟩,⟨b⟩⟩|_=>⟨⟨[]⟩,⟨[]⟩⟩,fun b=>by cases b;rfl⟩
@[go_sem] theorem PL {b:cX}:enc b= .agg [.s b.fr.l,.s b.to.l]:=rfl
@[go_sem] theorem zKm {a b:List UInt8}:dec (α:=cX) (.agg [.s a,.s b])=⟨⟨a⟩,⟨b⟩⟩:=rfl
instance:Kc cX 2:=⟨fun _=>rfl⟩
@[go_sem] theorem zHd {l:List cX}:dP (l.map enc) 2=True:=aU (qA l)
@[go_sem] theorem zE6 {l:List cX}:(bA (l.map enc)).all fh=true:=by rw[cB];intro d hd;simp only[bA,ff,be]at hd;obtain⟨_,⟨a,_,rfl⟩,x,hx,rfl⟩:=hd;simp only[PL,FD.cells,aV,aZ,ct]at hx;rcases hx with rfl|rfl<;>rfl
def jR (env:List cX)(w:Str):Nat→Str
 |0=>w
 |i+1=>if(env.getD i default).fr=w then(env.getD i default).to else jR env w i
def lkp (env:List cX)(w:Str):Str:=jR env w env.length
theorem LL (env:List cX)(b:cX)(w:Str):∀i,i≤env.length→jR (env++[b]) w i=jR env w i
 |0,_=>rfl
 |i+1,h=>by
  rw[jR,jR,LL env b w i ae];have:(env++[b]).getD i default=env.getD i default:=by rw[av,av,dh ae]
  rw[this]
theorem ph (env:List cX)(b:cX)(w:Str):lkp (env++[b]) w=if b.fr=w then b.to else lkp env w:=by
 unfold lkp;rw[aD,bU,jR,LL env b w _ (aI _)];have:(env++[b]).getD env.length default=b:=by rw[av,ce (aI _),cM];rfl
 rw[this]
theorem wH (w:Str):lkp [] w=w:=rfl
theorem NJ {env env':List cX}{s:Str→Str}(h1:env'.map (·.fr)=env.map (·.fr))(h2:env'.map (·.to)=env.map fun b=>s b.to){w:Str}(hw:s w=w):lkp env' w=s (lkp env w):=by
 have hl:env'.length=env.length:=by have:=a8 List.length h1;simpa using this
 have key:∀i,i≤env.length→jR env' w i=s (jR env w i):=by
  intro i;induction i with
  |zero=>intro _;exact hw.symm
  |succ i ih=>
   intro hi;have e1:(env'.getD i default).fr=(env.getD i default).fr:=by have:=a8 (fun l:List Str=>l[i]?) h1;simp only[bp,ay (show i<env.length by omega),ay (show i<env'.length by omega),bL,aL]at this;simp only[av,ay (show i<env.length by omega),ay (show i<env'.length by omega),bD];exact this
   have e2:(env'.getD i default).to=s (env.getD i default).to:=by have:=a8 (fun l:List Str=>l[i]?) h2;simp only[bp,ay (show i<env.length by omega),ay (show i<env'.length by omega),bL,aL]at this;simp only[av,ay (show i<env.length by omega),ay (show i<env'.length by omega),bD];exact this
   rw[jR,jR,e1,e2,ih ae];split<;>rfl
 unfold lkp;rw[hl];exact key _ (aI _)
def isQ (k:Int):Prop:=k=8∨k=9
instance (k:Int):Decidable (isQ k):=inferInstanceAs (Decidable (_∨_))
mutual
def cst:aH→List Str→List Str
 | .mk k nm ws s,bd=>ws.filter (fun w=>decide (w∉bd))++ef s (if isQ k then bd++[nm]else bd)
def ef:List aH→List Str→List Str
 |[],_=>[]
 |f::fs,bd=>cst f bd++ef fs bd
end
theorem CF (bd:List Str):∀a b:List aH,ef (a++b) bd=ef a bd++ef b bd
 |[],b=>by rw[ef];rfl
 |f::a,b=>by rw[a6,ef,ef,CF bd a b,bu]
mutual
def ren (g:Nat→Str×Nat):aH→List cX→Nat→aH×Nat
 | .mk k nm ws s,env,n=>
  if isQ k then(.mk k (g n).1 (ws.map (lkp env)) (dj g s (env++[⟨nm,(g n).1⟩]) (g n).2).1,(dj g s (env++[⟨nm,(g n).1⟩]) (g n).2).2)
  else(.mk k nm (ws.map (lkp env)) (dj g s env n).1,(dj g s env n).2)
def dj (g:Nat→Str×Nat):List aH→List cX→Nat→List aH×Nat
 |[],_,n=>([],n)
 |f::fs,env,n=>((ren g f env n).1::(dj g fs env (ren g f env n).2).1,(dj g fs env (ren g f env n).2).2)
end
theorem Dk (g:Nat→Str×Nat)(env:List cX):∀(a b:List aH) (n:Nat),dj g (a++b) env n=((dj g a env n).1++(dj g b env (dj g a env n).2).1,(dj g b env (dj g a env n).2).2)
 |[],b,n=>by simp[dj]
 |f::a,b,n=>by rw[a6,dj,dj,Dk g env a b];rfl
theorem rI (g:Nat→Str×Nat)(env:List cX):∀(a:List aH) (n:Nat),(dj g a env n).1.length=a.length
 |[],n=>by simp[dj]
 |f::a,n=>by rw[dj];simp[rI g env a]
def vg (used:List Str)(k:Nat):Str×Nat:=(gA (iy used k),iy used k+1)
def bg (n:Nat):Str×Nat:=(n9 n,n+1)
theorem rT {g:Nat→Str×Nat}{u:Nat}(hg:∀k,k≤(g k).2∧(g k).2≤k+u):
  (∀(f:aH) (env:List cX) (n:Nat),n≤(ren g f env n).2∧(ren g f env n).2≤n+u*f.size)∧∀(fs:List aH) (env:List cX) (n:Nat),n≤(dj g fs env n).2∧(dj g fs env n).2≤n+u*aH.sizes fs:=by
 suffices h:∀m,(∀(f:aH) (env:List cX) (n:Nat),f.size≤m→n≤(ren g f env n).2∧(ren g f env n).2≤n+u*f.size)∧∀(fs:List aH) (env:List cX) (n:Nat),aH.sizes fs≤m→n≤(dj g fs env n).2∧(dj g fs env n).2≤n+u*aH.sizes fs from
  ⟨fun f env n=>(h _).1 f env n (aI _),fun fs env n=>(h _).2 fs env n (aI _)⟩
 intro m;induction m with
 |zero=>
  refine⟨fun f env n h=>by have:=f.size_pos;omega,fun fs env n h=>?_⟩;cases fs with
  |nil=>simp[dj]
  |cons f fs=>rw[aH.sizes]at h;have:=f.size_pos;omega
 |succ m ih=>
  have h1:∀(f:aH) (env:List cX) (n:Nat),f.size≤m+1→n≤(ren g f env n).2∧(ren g f env n).2≤n+u*f.size:=by
   rintro⟨k,nm,ws,s⟩ env n h;rw[aH.size]at h ⊢;rw[ej,fO];rw[ren];split
   ·have h2:=ih.2 s (env++[⟨nm,(g n).1⟩]) (g n).2 ae;have h3:=hg n;simp only;omega
   ·have h2:=ih.2 s env n ae;simp only;omega
  refine⟨h1,fun fs=>?_⟩;induction fs with
  |nil=>intro env n h;simp[dj]
  |cons f fs ih2=>intro env n h;rw[aH.sizes]at h ⊢;rw[dj,ej];have h2:=h1 f env n ae;have h3:=ih2 env (ren g f env n).2 ae;simp only;omega
theorem vY (used:List Str)(k:Nat):k≤(vg used k).2∧(vg used k).2≤k+(used.length+1):=by have:=mS used k;unfold vg;simp only;omega
theorem xO (k:Nat):k≤(bg k).2∧(bg k).2≤k+1:=by unfold bg;simp
def eR (f:aH):List Str:=(lD (oC ((cst f []).map (·.l)))).map Str.mk
def mB (env:List cX)(used:List Str):List Str:=env.foldl (fun u b=>u.map fun w=>if w=b.fr then b.to else w) used
def eC (f:aH)(env:List cX):aH:=(ren (vg (mB env (eR f))) f env 0).1
theorem uL:∀(l:List (List UInt8)) (x:List UInt8),x∈lD l↔x∈l:=by
 intro l x;unfold lD Lib.compact Lib.compactUpTo;have hget:∀j (h:j<l.length),(l.toArray)[j]! =l[j]:=fun j h=>by simp[h]
 constructor
 ·intro h;obtain⟨j,hj,rfl⟩:=be.1 h;have hj':j<l.length:=dW.1 (cD.1 hj).1;rw[hget j hj'];exact aT hj'
 ·intro h;obtain⟨j,hj,rfl⟩:=bI h;induction j with
  |zero=>exact be.2 ⟨0,cD.2 ⟨dW.2 hj,by simp[Lib.keeps]⟩,hget 0 hj⟩
  |succ j ih=>
   by_cases he:l[j+1]=l[j]
   ·rw[he];exact ih ae (aT _)
   ·exact be.2 ⟨j+1,cD.2 ⟨dW.2 hj,by simp only[Lib.keeps,bi,dl];rw[hget _ hj,hget j ae];exact .inr he⟩,hget _ hj⟩
theorem og (f:aH)(x:Str):x∈eR f↔x∈cst f []:=by
 unfold eR;simp only[be,uL,(ry _).mem_iff];constructor
 ·rintro⟨y,⟨z,hz,rfl⟩,rfl⟩;exact hz
 ·intro h;exact⟨x.l,⟨x,h,rfl⟩,rfl⟩
theorem yz (f:aH):(eR f).length≤(cst f []).length:=by unfold eR;rw[aG];refine bz (sq _) ?_;rw[uP,aG];exact aI _
theorem KN (env:List cX):∀(used:List Str),(mB env used).length=used.length:=by
 unfold mB;induction env with
 |nil=>intro u;rfl
 |cons b env ih=>intro u;rw[bQ,ih,aG]
def fM (l:List Str)(s:Str):List Str:=if s∈l then l else l.take (l.takeWhile fun x=>decide (x.l<s.l)).length++[s]++l.drop (l.takeWhile fun x=>decide (x.l<s.l)).length
theorem MR (l:List Str)(s x:Str):x∈fM l s↔x∈l∨x=s:=by
 unfold fM;split
 ·rename_i h;constructor
  ·exact .inl
  ·rintro(h1|rfl)
   ·exact h1
   ·exact h
 ·have h1:=cQ (l.takeWhile fun x=>decide (x.l<s.l)).length l;constructor
  ·intro h;simp only[aO,a7]at h;rcases h with(h|h)|h
   ·exact .inl (dE h)
   ·exact .inr h
   ·exact .inl (List.mem_of_mem_drop h)
  ·rintro(h|rfl)
   ·rw[←h1]at h;simp only[aO,a7]at h ⊢;rcases h with h|h
    ·exact .inl (.inl h)
    ·exact .inr h
   ·simp
mutual
def iH:aH→List Str→List Str→List Str
 | .mk k nm ws s,bd,l=>jC s (if isQ k then bd++[nm]else bd) (ws.foldl (fun l w=>if w∈bd then l else fM l w) l)
def jC:List aH→List Str→List Str→List Str
 |[],_,l=>l
 |f::fs,bd,l=>jC fs bd (iH f bd l)
end
theorem Cf (bd:List Str):∀(a b:List aH) (l:List Str),jC (a++b) bd l=jC b bd (jC a bd l)
 |[],b,l=>by rw[jC];rfl
 |f::a,b,l=>by rw[a6,jC,jC,Cf bd a b]
theorem KT (bd:List Str)(x:Str):∀(ws l:List Str),x∈ws.foldl (fun l w=>if w∈bd then l else fM l w) l↔x∈l∨x∈ws.filter (fun w=>decide (w∉bd))
 |[],l=>ak
 |w::ws,l=>by
  rw[bQ,KT bd x ws,nF];by_cases h:w∈bd
  ·rw[aF h,az qQh]
  ·rw[az h,aF qQh,MR,aV,je]
mutual
theorem Dc (x:Str):∀(f:aH) (bd l:List Str),x∈iH f bd l↔x∈l∨x∈cst f bd
 | .mk k nm ws s,bd,l=>by rw[iH,cst,KS x s,KT,aO,je]
theorem KS (x:Str):∀(fs:List aH) (bd l:List Str),x∈jC fs bd l↔x∈l∨x∈ef fs bd
 |[],bd,l=>by simp[jC,ef]
 |f::fs,bd,l=>by rw[jC,ef,KS x fs,Dc x f,aO,je]
end
theorem M2 (l:List Str)(s:Str):(fM l s).length≤l.length+1:=by
 unfold fM;split
 ·omega
 ·simp only[aD,aX,jc,bU];omega
theorem wN (bd:List Str):∀(ws l:List Str),(ws.foldl (fun l w=>if w∈bd then l else fM l w) l).length≤l.length+ws.length
 |[],l=>ak
 |w::ws,l=>by
  rw[bQ];have h1:=wN bd ws (if w∈bd then l else fM l w);have h2:(if w∈bd then l else fM l w).length≤l.length+1:=by
   split
   ·omega
   ·exact M2 l w
  simp only[aN];omega
def iu (fr to:List Str)(w:Str):Str:=match fr,to with
 |a::fr,b::to=>if a=w then b else iu fr to w
 |_,_=>w
mutual
def swp (fr to:List Str):aH→aH
 | .mk k nm ws s=> .mk k (if isQ k then iu fr to nm else nm) (ws.map (iu fr to)) (q9 fr to s)
def q9 (fr to:List Str):List aH→List aH
 |[]=>[]
 |f::fs=>swp fr to f::q9 fr to fs
end
theorem MG (fr to:List Str):∀l:List aH,q9 fr to l=l.map (swp fr to)
 |[]=>by rw[q9];rfl
 |f::l=>by rw[q9,MG fr to l];rfl
def ctr (used:List Str):Nat→Nat→Nat
 |k,0=>k
 |k,i+1=>ctr used (iy used k+1) i
def lN (n:Nat):List Str:=(List.range n).map n9
def lY (used:List Str)(n:Nat):List Str:=(List.range n).map fun i=>gA (iy used (ctr used 0 i))
def tS (f:aH)(env:List cX):aH×Nat:=ren bg f env 0
def tZ (f:aH)(env:List cX):List Str:=iH (tS f env).1 [] []
def li (f:aH)(env:List cX):aH:=swp (lN (tS f env).2) (lY (tZ f env) (tS f env).2) (tS f env).1
theorem zb (used:List Str):∀i k,ctr used k (i+1)=iy used (ctr used k i)+1
 |0,k=>rfl
 |i+1,k=>by rw[ctr,zb used i,ctr]
theorem WU {fr to:List Str}{w:Str}(h:w∉fr):iu fr to w=w:=by
 induction fr generalizing to with
 |nil=>unfold iu;rfl
 |cons a fr ih=>
  cases to with
  |nil=>unfold iu;rfl
  |cons b to=>unfold iu;rw[az (by rintro rfl;simp at h),ih (by intro h2;exact h (cg _ h2))]
theorem PT {f:Nat→Str}(hf:∀i j,f i=f j→i=j){g:Nat→Str}{n i s:Nat}(h:i<n):iu ((List.range' s n).map f) ((List.range' s n).map g) (f (s+i))=g (s+i):=by
 induction n generalizing s i with
 |zero=>omega
 |succ n ih=>
  rw[List.range'_succ,aM,aM];unfold iu;cases i with
  |zero=>rw[bJ,aF rfl]
  |succ i=>rw[az (by intro e;have:=hf _ _ e;omega),show s+(i+1)=s+1+i by omega];exact ih ae
theorem JN {used:List Str}{n i:Nat}(h:i<n):iu (lN n) (lY used n) (n9 i)=gA (iy used (ctr used 0 i)):=by have:=PT (f:=n9) (fun _ _=>Pv) (g:=fun i=>gA (iy used (ctr used 0 i))) (s:=0) h;rw[bE,←List.range_eq_range']at this;exact this
theorem IB {used:List Str}{n:Nat}{w:Str}(h:¬iP w):iu (lN n) (lY used n) w=w:=by refine WU fun h1=>?_;unfold lN at h1;obtain⟨i,_,rfl⟩:=be.1 h1;exact h (Cc i)
mutual
def clean:aH→Prop
 | .mk _ _ ws s=>(∀w∈ws,¬iP w)∧lU s
def lU:List aH→Prop
 |[]=>True
 |f::fs=>clean f∧lU fs
end
theorem RH {used:List Str}{N:Nat}:∀m,(∀(f:aH) (env env':List cX) (n:Nat),f.size≤m→clean f→(ren bg f env n).2≤N→env'.map (·.fr)=env.map (·.fr)→env'.map (·.to)=env.map (fun b=>iu (lN N) (lY used N) b.to)→
   ren (vg used) f env' (ctr used 0 n)=(swp (lN N) (lY used N) (ren bg f env n).1,ctr used 0 (ren bg f env n).2))∧
  (∀(fs:List aH) (env env':List cX) (n:Nat),aH.sizes fs≤m→lU fs→(dj bg fs env n).2≤N→env'.map (·.fr)=env.map (·.fr)→env'.map (·.to)=env.map (fun b=>iu (lN N) (lY used N) b.to)→
   dj (vg used) fs env' (ctr used 0 n)=(q9 (lN N) (lY used N) (dj bg fs env n).1,ctr used 0 (dj bg fs env n).2)):=by
 intro m;induction m with
 |zero=>
  refine⟨fun f env env' n h=>by have:=f.size_pos;omega,fun fs env env' n h _ _ _ _=>?_⟩;cases fs with
  |nil=>simp[dj,q9]
  |cons f fs=>rw[aH.sizes]at h;have:=f.size_pos;omega
 |succ m ih=>
  have h1:∀(f:aH) (env env':List cX) (n:Nat),f.size≤m+1→clean f→(ren bg f env n).2≤N→env'.map (·.fr)=env.map (·.fr)→env'.map (·.to)=env.map (fun b=>iu (lN N) (lY used N) b.to)→
    ren (vg used) f env' (ctr used 0 n)=(swp (lN N) (lY used N) (ren bg f env n).1,ctr used 0 (ren bg f env n).2):=by
   rintro⟨k,nm,ws,s⟩ env env' n hs hcl hN e1 e2;rw[aH.size]at hs;rw[clean]at hcl;have hws:ws.map (lkp env')=(ws.map (lkp env)).map (iu (lN N) (lY used N)):=by rw[bX];exact bB fun w hw=>NJ e1 e2 (IB (hcl.1 w hw))
   rw[ren]at hN ⊢;rw[ren];split
   ·rename_i hq;rw[aF hq]at hN;simp only at hN;have h2:=(rT xO).2 s (env++[⟨nm,(bg n).1⟩]) (bg n).2;have hn:n<N:=by have:(bg n).2=n+1:=rfl;omega
    have h3:=ih.2 s (env++[⟨nm,(bg n).1⟩]) (env'++[⟨nm,(vg used (ctr used 0 n)).1⟩]) (bg n).2 ae hcl.2 hN (by simp[e1]) (by rw[aE,aE,e2];simp only[aM,aQ];rw[show(bg n).1=n9 n from rfl,JN hn];rfl);have h4:(vg used (ctr used 0 n)).2=ctr used 0 (bg n).2:=(zb used n 0).symm;rw[h4,h3,swp,aF hq,hws];rw[show(bg n).1=n9 n from rfl,JN hn];rfl
   ·rename_i hq;rw[az hq]at hN;simp only at hN;have h3:=ih.2 s env env' n ae hcl.2 hN e1 e2;rw[h3,swp,az hq,hws]
  refine⟨h1,fun fs=>?_⟩;induction fs with
  |nil=>intro env env' n _ _ _ _ _;simp[dj,q9]
  |cons f fs ih2=>intro env env' n hs hcl hN e1 e2;rw[aH.sizes]at hs;rw[lU]at hcl;rw[dj]at hN ⊢;rw[dj];simp only at hN;have h2:=(rT xO).2 fs env (ren bg f env n).2;rw[h1 f env env' n ae hcl.1 ae e1 e2];simp only;rw[ih2 env env' (ren bg f env n).2 ae hcl.2 hN e1 e2,q9]
theorem Qs {env0:List cX}{x:Str}(hx:¬iP x):∀m,(∀(f:aH) (env:List cX) (bd bdR:List Str) (n:Nat),f.size≤m→(∀b∈bdR,iP b)→(∀w,(w∈bd→iP (lkp env w))∧(w∉bd→lkp env w=lkp env0 w))→
   (x∈cst (ren bg f env n).1 bdR↔∃w∈cst f bd,x=lkp env0 w))∧
  (∀(fs:List aH) (env:List cX) (bd bdR:List Str) (n:Nat),aH.sizes fs≤m→(∀b∈bdR,iP b)→(∀w,(w∈bd→iP (lkp env w))∧(w∉bd→lkp env w=lkp env0 w))→
   (x∈ef (dj bg fs env n).1 bdR↔∃w∈ef fs bd,x=lkp env0 w)):=by
 intro m;induction m with
 |zero=>
  refine⟨fun f env bd bdR n h=>by have:=f.size_pos;omega,fun fs env bd bdR n h _ _=>?_⟩;cases fs with
  |nil=>simp[dj,ef]
  |cons f fs=>rw[aH.sizes]at h;have:=f.size_pos;omega
 |succ m ih=>
  have h1:∀(f:aH) (env:List cX) (bd bdR:List Str) (n:Nat),f.size≤m+1→(∀b∈bdR,iP b)→(∀w,(w∈bd→iP (lkp env w))∧(w∉bd→lkp env w=lkp env0 w))→
    (x∈cst (ren bg f env n).1 bdR↔∃w∈cst f bd,x=lkp env0 w):=by
   rintro⟨k,nm,ws,s⟩ env bd bdR n hs hb hl;rw[aH.size]at hs;have hws:x∈(ws.map (lkp env)).filter (fun w=>decide (w∉bdR))↔∃w∈ws.filter (fun w=>decide (w∉bd)),x=lkp env0 w:=by
    simp only[cD,be,bi];constructor
    ·rintro⟨⟨w,hw,rfl⟩,_⟩;by_cases hin:w∈bd
     ·exact absurd ((hl w).1 hin) hx
     ·exact⟨w,⟨hw,hin⟩,(hl w).2 hin⟩
    ·rintro⟨w,⟨hw,hin⟩,rfl⟩;exact⟨⟨w,hw,(hl w).2 hin⟩,fun h=>hx (hb _ h)⟩
   have key:∀{A B C D:Prop} {p:Str→Prop} {q:Str→Prop},(A↔∃w,p w∧x=lkp env0 w)→(B↔∃w,q w∧x=lkp env0 w)→(A∨B↔∃w,(p w∨q w)∧x=lkp env0 w):=by
    intro A B C D p q h2 h3;rw[h2,h3];constructor
    ·rintro(⟨w,h,e⟩|⟨w,h,e⟩)
     ·exact⟨w,.inl h,e⟩
     ·exact⟨w,.inr h,e⟩
    ·rintro⟨w,h|h,e⟩
     ·exact .inl ⟨w,h,e⟩
     ·exact .inr ⟨w,h,e⟩
   rw[ren,cst];split
   ·rename_i hq;simp only[cst,aO,aF hq];refine key (C:=True) (D:=True) hws (ih.2 s _ _ _ _ ae (fun b hb2=>?_) fun w=>?_)
    ·rcases aO.1 hb2 with h|h
     ·exact hb b h
     ·obtain rfl:=a7.1 h;exact Cc n
    ·rw[ph];constructor
     ·intro hw;by_cases he:nm=w
      ·simp only[he,cJ];exact Cc n
      ·simp only[he,cd];rcases aO.1 hw with h|h
       ·exact(hl w).1 h
       ·exact absurd (a7.1 h).symm he
     ·intro hw;have he:¬nm=w:=fun e=>hw (by simp[e]);simp only[he,cd];exact(hl w).2 fun h=>hw (cx _ h)
   ·rename_i hq;simp only[cst,aO,az hq];exact key (C:=True) (D:=True) hws (ih.2 s _ _ _ _ ae hb hl)
  refine⟨h1,fun fs=>?_⟩;induction fs with
  |nil=>intro env bd bdR n _ _ _;simp[dj,ef]
  |cons f fs ih2=>
   intro env bd bdR n hs hb hl;rw[aH.sizes]at hs;rw[dj,ef,ef,aO,h1 f env bd bdR n ae hb hl,ih2 env bd bdR _ ae hb hl];simp only[aO];constructor
   ·rintro(⟨w,h,e⟩|⟨w,h,e⟩)
    ·exact⟨w,.inl h,e⟩
    ·exact⟨w,.inr h,e⟩
   ·rintro⟨w,h|h,e⟩
    ·exact .inl ⟨w,h,e⟩
    ·exact .inr ⟨w,h,e⟩
theorem ZP {env:List cX}(h:env.length≤1)(used:List Str):mB env used=used.map (lkp env):=by
 match env,h with
 |[],_=>rw[show lkp []=id from funext fun w=>wH w,gK];rfl
 |[b],_=>
  simp only[mB,bQ,dV];refine bB fun w _=>?_;have:=ph [] b w;rw[aK]at this;rw[this,wH];by_cases e:w=b.fr
  ·rw[aF e,aF e.symm]
  ·rw[az e,az fun e2=>e e2.symm]
theorem BM {f:aH}{env:List cX}(hf:clean f)(hl:env.length≤1)(hto:∀b∈env,¬iP b.to):eC f env=li f env:=by
 have hu:∀j,gA j∈mB env (eR f)↔gA j∈tZ f env:=by
  intro j;rw[ZP hl];unfold tZ tS;rw[Dc,(Qs (env0:=env) (HN j) f.size).1 f env [] [] 0 (aI _) ak (fun w=>⟨ak,fun _=>rfl⟩),be];constructor
  ·rintro⟨w,h,e⟩;exact .inr ⟨w,(og f w).1 h,e.symm⟩
  ·rintro(h|⟨w,h,e⟩)
   ·simp at h
   ·exact⟨w,(og f w).2 h,e.symm⟩
 have hv:vg (mB env (eR f))=vg (tZ f env):=by funext k;unfold vg;rw[IU hu]
 unfold eC li;rw[hv];have:=(RH (used:=tZ f env) (N:=(tS f env).2) f.size).1 f env env 0 (aI _) hf (aI _) rfl (bB fun b hb=>(IB (hto b hb)).symm);rw[show ctr (tZ f env) 0 0=0 from rfl]at this;rw[this];rfl
mutual
def aH.depth:aH→Nat
 | .mk _ _ _ s=>aH.depths s+1
def aH.depths:List aH→Nat
 |[]=>0
 |f::fs=>max f.depth (aH.depths fs)
end
mutual
theorem aH.depth_size:∀f:aH,f.depth≤f.size
 | .mk k n w s=>by rw[aH.depth,aH.size];have:=aH.depths_size s;omega
theorem aH.depths_size:∀fs:List aH,aH.depths fs≤aH.sizes fs
 |[]=>by rw[aH.depths,aH.sizes];exact aI _
 |f::fs=>by rw[aH.depths,aH.sizes];have:=f.depth_size;have:=aH.depths_size fs;omega
end
mutual
theorem Ms {op:Bool}:∀(f:aH) (d:Int) (n:Nat),(chk op f d n).1.code=0→(chk op f d n).2=n+f.size
 | .mk k nm w s,d,n,h=>by
  rw[chk]at h ⊢;split at h
  ·rename_i h1;exact absurd h h1
  ·rename_i h1;rw[az h1,aH.size,KE s _ _ h];omega
theorem KE {op:Bool}:∀(fs:List aH) (d:Int) (n:Nat),(gX op fs d n).1.code=0→(gX op fs d n).2=n+aH.sizes fs
 |[],d,n,_=>by rw[gX,aH.sizes];rfl
 |f::fs,d,n,h=>by
  rw[gX]at h ⊢;split at h
  ·rename_i h1;exact absurd h h1
  ·rename_i h1;have h2:=Ms f d n (bT.1 h1);rw[az h1,KE fs d _ h,h2,aH.sizes];omega
end
theorem nq {op:Bool}{f:aH}(h:(dB op f).code=0):f.size≤200:=by have h1:=Ms f 1 0 h;have h2:=(xH f 1 0 h).2.1;omega
theorem y7 {s:Str}(h:dI s=true):¬iP s:=by
 unfold dI at h;have h:=(bO h).2.2.1;intro hb;unfold iP at hb;have h0:s.l.getD 0 0=33:=by rw[av,←List.head?_eq_getElem?,hb];rfl
 rw[h0]at h;exact absurd h ai
theorem wF {op:Bool}{f:aH}{d:Int}{n:Nat}(h:jV op f d n=0):f.words.all dI=true∧(named f=true→dI f.name=true)∧(named f=false→f.name=⟨[]⟩)∧pA f=true∧(f.subs.length:Int)=iU op f:=by
 unfold jV at h;split at h
 ·simp at h
 split at h
 ·simp at h
 split at h
 ·simp at h
 rename_i h3;split at h
 ·simp at h
 rename_i h4;split at h
 ·simp at h
 rename_i h5;split at h
 ·simp at h
 rename_i h6;have h7:=bT.1 h3;refine⟨by simpa using h6,fun h8=>?_,fun h8=>?_,h7.2,h7.1⟩
 ·cases hn:dI f.name with
  |true=>rfl
  |false=>exact absurd ⟨h8,hn⟩ h4
 ·exact bT.1 fun hn=>h5 ⟨h8,hn⟩
mutual
theorem YA {op:Bool}:∀(f:aH) (d:Int) (n:Nat),(chk op f d n).1.code=0→clean f
 | .mk k nm w s,d,n,h=>by
  rw[chk]at h;split at h
  ·rename_i h1;exact absurd h h1
  ·rename_i h1;have h2:=(wF (bT.1 h1)).1;rw[clean];exact⟨fun x hx=>y7 (cB.1 h2 x hx),JJ s _ _ h⟩
theorem JJ {op:Bool}:∀(fs:List aH) (d:Int) (n:Nat),(gX op fs d n).1.code=0→lU fs
 |[],d,n,_=>by rw[lU];trivial
 |f::fs,d,n,h=>by
  rw[gX]at h;split at h
  ·rename_i h1;exact absurd h h1
  ·rename_i h1;rw[lU];exact⟨YA f d n (bT.1 h1),JJ fs d _ h⟩
end
theorem Jf:∀l:List aH,lU l↔∀f∈l,clean f
 |[]=>by rw[lU];simp
 |f::l=>by rw[lU,Jf l];simp
theorem fits_mem:∀l:List aH,aH.fits l=true↔∀f∈l,f.fit=true
 |[]=>by rw[aH.fits];simp
 |f::l=>by rw[aH.fits,aS,fits_mem l];simp
theorem NI (env:List cX)(w:Str):∀i,i≤env.length→jR env w i=w∨∃b∈env,jR env w i=b.to
 |0,_=> .inl rfl
 |i+1,h=>by
  rw[jR];split
  ·refine .inr ⟨env.getD i default,?_,rfl⟩;rw[av,ay ae];exact aT _
  ·exact NI env w i ae
theorem D3 (env:List cX)(w:Str):lkp env w=w∨∃b∈env,lkp env w=b.to:=NI env w _ (aI _)
mutual
theorem Di (g:Nat→Str×Nat):∀(f:aH) (env:List cX) (n:Nat),(ren g f env n).1.size=f.size
 | .mk k nm ws s,env,n=>by
  rw[ren];split
  ·rw[aH.size,aH.size,Cl g s]
  ·rw[aH.size,aH.size,Cl g s]
theorem Cl (g:Nat→Str×Nat):∀(fs:List aH) (env:List cX) (n:Nat),aH.sizes (dj g fs env n).1=aH.sizes fs
 |[],env,n=>by rw[dj]
 |f::fs,env,n=>by rw[dj,aH.sizes,aH.sizes,Di g f,Cl g fs]
end
mutual
theorem DD (g:Nat→Str×Nat):∀(f:aH) (env:List cX) (n:Nat),(ren g f env n).1.fit=f.fit
 | .mk k nm ws s,env,n=>by
  rw[ren];split
  ·rw[aH.fit,aH.fit,Dl g s,aG,rI]
  ·rw[aH.fit,aH.fit,Dl g s,aG,rI]
theorem Dl (g:Nat→Str×Nat):∀(fs:List aH) (env:List cX) (n:Nat),aH.fits (dj g fs env n).1=aH.fits fs
 |[],env,n=>by rw[dj]
 |f::fs,env,n=>by rw[dj,aH.fits,aH.fits,DD g f,Dl g fs]
end
theorem Lo {env:List cX}{ws:List Str}(h:∀w∈ws,¬iP w)(he:∀b∈env,¬iP b.to):∀w∈ws.map (lkp env),¬iP w:=by
 intro w hw;obtain⟨x,hx,rfl⟩:=be.1 hw;rcases D3 env x with e|⟨b,hb,e⟩
 ·rw[e];exact h x hx
 ·rw[e];exact he b hb
mutual
theorem KL {g:Nat→Str×Nat}(hg:∀k,¬iP (g k).1):∀(f:aH) (env:List cX) (n:Nat),clean f→(∀b∈env,¬iP b.to)→clean (ren g f env n).1
 | .mk k nm ws s,env,n,h,he=>by
  rw[clean]at h;rw[ren];split
  ·rw[clean];refine⟨Lo h.1 he,BZ hg s _ _ h.2 fun b hb=>?_⟩;rcases aO.1 hb with hb|hb
   ·exact he b hb
   ·rw[a7.1 hb];exact hg n
  ·rw[clean];exact⟨Lo h.1 he,BZ hg s _ _ h.2 he⟩
theorem BZ {g:Nat→Str×Nat}(hg:∀k,¬iP (g k).1):∀(fs:List aH) (env:List cX) (n:Nat),lU fs→(∀b∈env,¬iP b.to)→lU (dj g fs env n).1
 |[],env,n,_,_=>by rw[dj,lU];trivial
 |f::fs,env,n,h,he=>by rw[lU]at h;rw[dj,lU];exact⟨KL hg f _ _ h.1 he,BZ hg fs _ _ h.2 he⟩
end
theorem uw (f:aH)(env:List cX):(eC f env).size=f.size:=Di _ f env 0
theorem BQ (f:aH)(env:List cX):(eC f env).fit=f.fit:=DD _ f env 0
theorem Wo {f:aH}{env:List cX}(h:clean f)(he:∀b∈env,¬iP b.to):clean (eC f env):=KL (fun _=>HN _) f env 0 h he
def nS (k:Int):List aH→aH
 |[]=> .mk 0 ⟨[]⟩ [] []
 |f::l=>l.foldl (fun a x=> .mk k ⟨[]⟩ [] [a,x]) f
def fQ:aH:= .mk 0 ⟨[]⟩ [] []
mutual
def eu (p:Str→Prop):aH→Prop
 | .mk k nm ws s=>(∀w∈ws,p w)∧(isQ k→p nm)∧eD p s
def eD (p:Str→Prop):List aH→Prop
 |[]=>True
 |f::fs=>eu p f∧eD p fs
end
mutual
def jk (σ:Str→Str):aH→aH
 | .mk k nm ws s=> .mk k (if isQ k then σ nm else nm) (ws.map σ) (iX σ s)
def iX (σ:Str→Str):List aH→List aH
 |[]=>[]
 |f::fs=>jk σ f::iX σ fs
end
theorem Ln (σ:Str→Str):∀l:List aH,iX σ l=l.map (jk σ)
 |[]=>by rw[iX];rfl
 |f::l=>by rw[iX,Ln σ l];rfl
theorem yG (p:Str→Prop):∀l:List aH,eD p l↔∀f∈l,eu p f
 |[]=>by rw[eD];simp
 |f::l=>by rw[eD,yG p l];simp
mutual
theorem Wn {p q:Str→Prop}(h:∀w,p w→q w):∀f:aH,eu p f→eu q f
 | .mk k nm ws s,hf=>by rw[eu]at hf ⊢;exact⟨fun w hw=>h w (hf.1 w hw),fun hk=>h nm (hf.2.1 hk),JE h s hf.2.2⟩
theorem JE {p q:Str→Prop}(h:∀w,p w→q w):∀fs:List aH,eD p fs→eD q fs
 |[],_=>by rw[eD];trivial
 |f::fs,hf=>by rw[eD]at hf ⊢;exact⟨Wn h f hf.1,JE h fs hf.2⟩
end
mutual
theorem JD {p:Str→Prop}(h:∀w,p w→¬iP w):∀f:aH,eu p f→clean f
 | .mk k nm ws s,hf=>by rw[eu]at hf;rw[clean];exact⟨fun w hw=>h w (hf.1 w hw),Ir h s hf.2.2⟩
theorem Ir {p:Str→Prop}(h:∀w,p w→¬iP w):∀fs:List aH,eD p fs→lU fs
 |[],_=>by rw[lU];trivial
 |f::fs,hf=>by rw[eD]at hf;rw[lU];exact⟨JD h f hf.1,Ir h fs hf.2⟩
end
mutual
theorem Ze (σ:Str→Str):∀f:aH,(jk σ f).size=f.size
 | .mk k nm ws s=>by rw[jk,aH.size,aH.size,IM σ s]
theorem IM (σ:Str→Str):∀fs:List aH,aH.sizes (iX σ fs)=aH.sizes fs
 |[]=>by rw[iX]
 |f::fs=>by rw[iX,aH.sizes,aH.sizes,Ze σ f,IM σ fs]
end
mutual
theorem Xo (σ:Str→Str):∀f:aH,(jk σ f).depth=f.depth
 | .mk k nm ws s=>by rw[jk,aH.depth,aH.depth,H7 σ s]
theorem H7 (σ:Str→Str):∀fs:List aH,aH.depths (iX σ fs)=aH.depths fs
 |[]=>by rw[iX]
 |f::fs=>by rw[iX,aH.depths,aH.depths,Xo σ f,H7 σ fs]
end
theorem Zf (σ:Str→Str)(l:List aH):(iX σ l).length=l.length:=by rw[Ln,aG]
mutual
theorem Qr (σ:Str→Str):∀f:aH,(jk σ f).fit=f.fit
 | .mk k nm ws s=>by rw[jk,aH.fit,aH.fit,Ju σ s,aG,Zf]
theorem Ju (σ:Str→Str):∀fs:List aH,aH.fits (iX σ fs)=aH.fits fs
 |[]=>by rw[iX]
 |f::fs=>by rw[iX,aH.fits,aH.fits,Qr σ f,Ju σ fs]
end
theorem J2 (σ:Str→Str)(k:Int)(hk:¬isQ k):∀(l:List aH) (f:aH),jk σ (l.foldl (fun a x=>aH.mk k ⟨[]⟩ [] [a,x]) f)=(l.map (jk σ)).foldl (fun a x=>aH.mk k ⟨[]⟩ [] [a,x]) (jk σ f)
 |[],f=>rfl
 |x::l,f=>by rw[bQ,J2 σ k hk l,aM,bQ];simp only[jk,iX,az hk,aQ]
theorem Y0 (σ:Str→Str)(k:Int)(hk:¬isQ k)(l:List aH):jk σ (nS k l)=nS k (l.map (jk σ)):=by
 cases l with
 |nil=>simp[nS,jk,iX,isQ]
 |cons f l=>exact J2 σ k hk l f
theorem Jr (p:Str→Prop)(k:Int)(hk:¬isQ k):∀(l:List aH) (f:aH),eu p f→eD p l→eu p (l.foldl (fun a x=>aH.mk k ⟨[]⟩ [] [a,x]) f)
 |[],f,h,_=>h
 |x::l,f,h,hl=>by rw[bQ];rw[eD]at hl;refine Jr p k hk l _ ?_ hl.2;simp only[eu,eD];exact⟨ak,fun h=>absurd h hk,h,hl.1,trivial⟩
theorem Js (p:Str→Prop)(k:Int)(hk:¬isQ k){l:List aH}(h:eD p l):eu p (nS k l):=by
 cases l with
 |nil=>simp[nS,eu,eD,isQ]
 |cons f l=>rw[eD]at h;exact Jr p k hk l f h.1 h.2
mutual
theorem KK:∀(f:aH) (bd:List Str) (x:Str),x∈cst f bd→x∉bd
 | .mk k nm ws s,bd,x,h=>by
  rw[cst,aO]at h;rcases h with h|h
  ·simpa using(cD.1 h).2
  ·have:=yw s _ x h;split at this
   ·exact fun hb=>this (cx _ hb)
   ·exact this
theorem yw:∀(fs:List aH) (bd:List Str) (x:Str),x∈ef fs bd→x∉bd
 |[],bd,x,h=>by rw[ef]at h;simp at h
 |f::fs,bd,x,h=>by
  rw[ef,aO]at h;rcases h with h|h
  ·exact KK f bd x h
  ·exact yw fs bd x h
end
mutual
theorem JL {p:Str→Prop}:∀(f:aH) (bd:List Str) (x:Str),eu p f→x∈cst f bd→p x
 | .mk k nm ws s,bd,x,hf,h=>by
  rw[eu]at hf;rw[cst,aO]at h;rcases h with h|h
  ·exact hf.1 x (cD.1 h).1
  ·exact J3 s _ x hf.2.2 h
theorem J3 {p:Str→Prop}:∀(fs:List aH) (bd:List Str) (x:Str),eD p fs→x∈ef fs bd→p x
 |[],bd,x,_,h=>by rw[ef]at h;simp at h
 |f::fs,bd,x,hf,h=>by
  rw[eD]at hf;rw[ef,aO]at h;rcases h with h|h
  ·exact JL f bd x hf.1 h
  ·exact J3 fs bd x hf.2 h
end
mutual
theorem Re {σ:Str→Str}{p:Str→Prop}(hi:∀a b,p a→p b→σ a=σ b→a=b):∀(f:aH) (bd:List Str),eu p f→(∀b∈bd,p b)→cst (jk σ f) (bd.map σ)=(cst f bd).map σ
 | .mk k nm ws s,bd,hf,hb=>by
  rw[eu]at hf;rw[jk,cst,cst,aE];congr 1
  ·rw[List.filter_map];congr 1;refine List.filter_congr fun w hw=>?_;simp only[Function.comp];rw[nK];constructor
   ·intro h hw2;exact h (cR hw2)
   ·intro h hw2;obtain⟨b,hb2,e⟩:=be.1 hw2;exact h (hi b w (hb b hb2) (hf.1 w hw) e▸hb2)
  ·by_cases hq:isQ k
   ·rw[aF hq,aF hq,aF hq];have:=CG hi s (bd++[nm]) hf.2.2 fun b hb2=>by
     rcases aO.1 hb2 with h|h
     ·exact hb b h
     ·rw[a7.1 h];exact hf.2.1 hq
    rw[aE]at this;exact this
   ·rw[az hq,az hq];exact CG hi s bd hf.2.2 hb
theorem CG {σ:Str→Str}{p:Str→Prop}(hi:∀a b,p a→p b→σ a=σ b→a=b):∀(fs:List aH) (bd:List Str),eD p fs→(∀b∈bd,p b)→ef (iX σ fs) (bd.map σ)=(ef fs bd).map σ
 |[],bd,_,_=>by rw[iX,ef,ef];rfl
 |f::fs,bd,hf,hb=>by rw[eD]at hf;rw[iX,ef,ef,aE,Re hi f bd hf.1 hb,CG hi fs bd hf.2 hb]
end
theorem Zc {σ:Str→Str}{p:Str→Prop}(hi:∀a b,p a→p b→σ a=σ b→a=b){env:List cX}{w:Str}(hw:p w)(he:∀b∈env,p b.fr):
  lkp (env.map fun b=>⟨σ b.fr,b.to⟩) (σ w)=lkp env w∨(lkp (env.map fun b=>⟨σ b.fr,b.to⟩) (σ w)=σ w∧lkp env w=w∧w∉env.map (·.fr)):=by
 have key:∀i,i≤env.length→jR (env.map fun b=>⟨σ b.fr,b.to⟩) (σ w) i=jR env w i∨(jR (env.map fun b=>⟨σ b.fr,b.to⟩) (σ w) i=σ w∧jR env w i=w∧∀j (h:j<env.length),j<i→env[j].fr≠w):=by
  intro i;induction i with
  |zero=>intro _;exact .inr ⟨rfl,rfl,fun j h1 h2=>ae⟩
  |succ i ih=>
   intro hi2;have hlt:i<env.length:=ae
   have e1:env.getD i default=env[i]:=by rw[av,ay hlt];rfl
   have e2:(env.map fun b=>(⟨σ b.fr,b.to⟩:cX)).getD i default=⟨σ env[i].fr,env[i].to⟩:=by rw[av,bp,ay hlt];rfl
   rw[jR,jR,e1,e2];by_cases hc:env[i].fr=w
   ·rw[aF hc,aF (by simp only;rw[hc])];exact .inl rfl
   ·rw[az hc,az (fun e=>hc (hi _ _ (he _ (aT hlt)) hw e))];rcases ih ae with h|⟨h1,h2,h3⟩
    ·exact .inl h
    ·refine .inr ⟨h1,h2,fun j hj hji=>?_⟩;rcases aA j i with h|h
     ·exact h3 j hj h
     ·obtain rfl:j=i:=ae
      exact hc
 rcases key env.length (aI _)with h|⟨h1,h2,h3⟩
 ·refine .inl ?_;unfold lkp;rw[aG];exact h
 ·refine .inr ⟨?_,h2,fun hm=>?_⟩
  ·unfold lkp;rw[aG];exact h1
  ·obtain⟨b,hb,e⟩:=be.1 hm;obtain⟨j,hj,rfl⟩:=bI hb;exact h3 j hj hj e
mutual
theorem Ty {g:Nat→Str×Nat}{σ:Str→Str}{p:Str→Prop}(hi:∀a b,p a→p b→σ a=σ b→a=b):∀(f:aH) (env:List cX) (n:Nat),eu p f→(∀b∈env,p b.fr)→(∀x∈cst f (env.map (·.fr)),σ x=x)→
  ren g (jk σ f) (env.map fun b=>⟨σ b.fr,b.to⟩) n=ren g f env n
 | .mk k nm ws s,env,n,hf,he,hc=>by
  rw[eu]at hf;rw[cst]at hc;have hw:(ws.map σ).map (lkp (env.map fun b=>⟨σ b.fr,b.to⟩))=ws.map (lkp env):=by
   rw[bX];refine bB fun w hw=>?_;rcases Zc hi (hf.1 w hw) he with e|⟨e1,e2,e3⟩
   ·exact e
   ·show lkp _ (σ w)=_;rw[e1,e2];exact hc w (cx _ (cD.2 ⟨hw,by simpa using e3⟩))
  rw[jk,ren,ren,hw];by_cases hq:isQ k
  ·rw[aF hq]at hc;simp only[aF hq];have h3:=DZ (g:=g) hi s (env++[⟨nm,(g n).1⟩]) (g n).2 hf.2.2 (fun b hb=>by
    rcases aO.1 hb with h|h
    ·exact he b h
    ·rw[a7.1 h];exact hf.2.1 hq) (fun x hx=>hc x (cP _ (by rw[aE]at hx;exact hx)))
   rw[aE]at h3;simp only[aM,aQ]at h3;rw[h3]
  ·rw[az hq]at hc;simp only[az hq];rw[DZ hi s env n hf.2.2 he fun x hx=>hc x (cP _ hx)]
theorem DZ {g:Nat→Str×Nat}{σ:Str→Str}{p:Str→Prop}(hi:∀a b,p a→p b→σ a=σ b→a=b):∀(fs:List aH) (env:List cX) (n:Nat),eD p fs→(∀b∈env,p b.fr)→(∀x∈ef fs (env.map (·.fr)),σ x=x)→
  dj g (iX σ fs) (env.map fun b=>⟨σ b.fr,b.to⟩) n=dj g fs env n
 |[],env,n,_,_,_=>by rw[iX,dj,dj]
 |f::fs,env,n,hf,he,hc=>by rw[eD]at hf;rw[ef]at hc;rw[iX,dj,dj,Ty hi f env n hf.1 he fun x hx=>hc x (cx _ hx)];rw[DZ hi fs env _ hf.2 he fun x hx=>hc x (cP _ hx)]
end
mutual
theorem RG {g:Nat→Str×Nat}{σ:Str→Str}(hg:∀k,σ (g k).1=(g k).1):∀(f:aH) (env env':List cX) (n:Nat),eu (fun w=>σ w=w) f→env'.map (·.fr)=env.map (·.fr)→env'.map (·.to)=env.map (fun b=>σ b.to)→
  ren g f env' n=(jk σ (ren g f env n).1,(ren g f env n).2)
 | .mk k nm ws s,env,env',n,hf,e1,e2=>by
  rw[eu]at hf;have hw:ws.map (lkp env')=(ws.map (lkp env)).map σ:=by rw[bX];exact bB fun w hw=>NJ e1 e2 (hf.1 w hw)
  rw[ren,ren,hw];by_cases hq:isQ k
  ·simp only[aF hq];have h3:=Dm (g:=g) hg s (env++[⟨nm,(g n).1⟩]) (env'++[⟨nm,(g n).1⟩]) (g n).2 hf.2.2 (by rw[aE,aE,e1]) (by rw[aE,aE,e2];simp only[aM,aQ,hg]);rw[h3];simp only[jk,aF hq,hg]
  ·simp only[az hq];rw[Dm hg s env env' n hf.2.2 e1 e2];simp only[jk,az hq]
theorem Dm {g:Nat→Str×Nat}{σ:Str→Str}(hg:∀k,σ (g k).1=(g k).1):∀(fs:List aH) (env env':List cX) (n:Nat),eD (fun w=>σ w=w) fs→env'.map (·.fr)=env.map (·.fr)→env'.map (·.to)=env.map (fun b=>σ b.to)→
  dj g fs env' n=(iX σ (dj g fs env n).1,(dj g fs env n).2)
 |[],env,env',n,_,_,_=>by rw[dj,dj,iX]
 |f::fs,env,env',n,hf,e1,e2=>by rw[eD]at hf;rw[dj,dj,RG hg f env env' n hf.1 e1 e2];simp only;rw[Dm hg fs env env' _ hf.2 e1 e2,iX]
end
mutual
theorem Qf {g:Nat→Str×Nat}{p:Str→Prop}(hg:∀k,p (g k).1):∀(f:aH) (env:List cX) (n:Nat),eu p f→(∀b∈env,p b.to)→eu p (ren g f env n).1
 | .mk k nm ws s,env,n,hf,he=>by
  rw[eu]at hf;have hw:∀w∈ws.map (lkp env),p w:=fun w hw=>by
   obtain⟨x,hx,rfl⟩:=be.1 hw;rcases D3 env x with e|⟨b,hb,e⟩
   ·rw[e];exact hf.1 x hx
   ·rw[e];exact he b hb
  rw[ren];split
  ·rw[eu];refine⟨hw,fun _=>hg n,Ck hg s _ _ hf.2.2 fun b hb=>?_⟩;rcases aO.1 hb with h|h
   ·exact he b h
   ·rw[a7.1 h];exact hg n
  ·rename_i hq;rw[eu];exact⟨hw,fun h=>absurd h hq,Ck hg s _ _ hf.2.2 he⟩
theorem Ck {g:Nat→Str×Nat}{p:Str→Prop}(hg:∀k,p (g k).1):∀(fs:List aH) (env:List cX) (n:Nat),eD p fs→(∀b∈env,p b.to)→eD p (dj g fs env n).1
 |[],env,n,_,_=>by rw[dj,eD];trivial
 |f::fs,env,n,hf,he=>by rw[eD]at hf;rw[dj,eD];exact⟨Qf hg f _ _ hf.1 he,Ck hg fs _ _ hf.2 he⟩
end
mutual
theorem Mr {op:Bool}:∀(f:aH) (d:Int) (n:Nat),(chk op f d n).1.code=0→eu (fun w=>dI w=true) f
 | .mk k nm w s,d,n,h=>by
  rw[chk]at h;split at h
  ·rename_i h1;exact absurd h h1
  ·rename_i h1;have h2:=wF (bT.1 h1);rw[eu];refine⟨fun x hx=>cB.1 h2.1 x hx,fun hq=>h2.2.1 ?_,KD s _ _ h⟩;unfold named;have hq':k=8∨k=9:=hq;have:(aH.mk k nm w s).kind=k:=rfl;rw[this];exact ba ae
theorem KD {op:Bool}:∀(fs:List aH) (d:Int) (n:Nat),(gX op fs d n).1.code=0→eD (fun w=>dI w=true) fs
 |[],d,n,_=>by rw[eD];trivial
 |f::fs,d,n,h=>by
  rw[gX]at h;split at h
  ·rename_i h1;exact absurd h h1
  ·rename_i h1;rw[eD];exact⟨Mr f d n (bT.1 h1),KD fs d _ h⟩
end
theorem VR {op:Bool}{f:aH}(h:(dB op f).code=0):eu (fun w=>dI w=true) f:=Mr f 1 0 h
def qn (i:Nat):Str:=⟨63::fV i⟩
def dn (i:Nat):Str:=⟨36::fV i⟩
def sg (w:Str):Str:=match w with
 |⟨c::t⟩=>if c=63 then⟨36::t⟩else⟨c::t⟩
 |⟨[]⟩=>⟨[]⟩
def wrap (v:Nat→Str):Nat→aH→aH
 |0,c=>c
 |i+1,c=>wrap v i (.mk 9 (v i) [] [c])
def lwP (n:Nat)(x:Str):Prop:=(x.l.head? =some 63→∃i,i<n∧x=qn i)∧x.l.head? ≠some 36∧¬iP x
theorem Qq {n:Nat}{x:Str}(h:dI x=true):lwP n x:=by
 unfold dI at h;have h:=(bO h).2.2.1;have hd:∀c:UInt8,x.l.head? =some c→mZ c:=fun c hc=>by
  have h0:x.l.getD 0 0=c:=by rw[av,←List.head?_eq_getElem?,hc];rfl
  rwa [h0]at h
 exact⟨fun e=>absurd (hd 63 e) ai,fun e=>absurd (hd 36 e) ai,fun e=>absurd (hd 33 e) ai⟩
def eJ (f:aH):aH:= .mk 4 ⟨[]⟩ [] [f]
theorem YX {p:Str→Prop}{f:aH}(h:eu p f):eu p (eJ f):=by simp only[eJ,eu,eD];exact⟨ak,fun h=>absurd h ai,h,trivial⟩
structure dT where
 name:Str
 value:Int
deriving DecidableEq
structure gV where
 name:Str
 arity:Int
 tuples:List (List Int)
deriving DecidableEq
structure dd where
 size:Int
 consts:List dT
 rels:List gV
deriving DecidableEq
instance:Inhabited dT:=⟨⟨⟨[]⟩,0⟩⟩
instance:Inhabited gV:=⟨⟨⟨[]⟩,0,[]⟩⟩
@[go_sem] theorem jp {c:dT}:dT.mk c.name c.value=c:=by cases c;rfl
@[go_sem] theorem jB {r:gV}:gV.mk r.name r.arity r.tuples=r:=by cases r;rfl
@[go_sem] theorem bZ {m:dd}:dd.mk m.size m.consts m.rels=m:=by cases m;rfl
instance:Enc dT:=⟨fun c=> .agg [.s c.name.l,.i .i64 c.value],fun x=>match x with| .agg [.s a,.i _ n]=>⟨⟨a⟩,n⟩|_=>default,ap⟩
@[go_sem] theorem Wj {c:dT}:enc c= .agg [.s c.name.l,.i .i64 c.value]:=rfl
@[go_sem] theorem yV {a i n}:dec (α:=dT) (.agg [.s a,.i i n])=⟨⟨a⟩,n⟩:=rfl
instance:Kc dT 2:=⟨fun _=>rfl⟩
@[go_sem] theorem zFB {l:List dT}:dP (l.map enc) 2=True:=aU (qA l)
instance:Enc gV:=⟨fun r=> .agg [.s r.name.l,.i .i64 r.arity,.sl (r.tuples.map enc)],fun x=>match x with| .agg [.s a,.i _ n,.sl t]=>⟨⟨a⟩,n,t.map dec⟩|_=>default,fun r=>by cases r;simp only[uB]⟩
@[go_sem] theorem Lq {r:gV}:enc r= .agg [.s r.name.l,.i .i64 r.arity,.sl (r.tuples.map enc)]:=rfl
@[go_sem] theorem zMd {a i n t}:dec (α:=gV) (.agg [.s a,.i i n,.sl t])=⟨⟨a⟩,n,dec (.sl t)⟩:=rfl
instance:Kc gV 3:=⟨fun _=>rfl⟩
@[go_sem] theorem zIZ {l:List gV}:dP (l.map enc) 3=True:=aU (qA l)
instance:Enc dd:=⟨fun m=> .agg [.i .i64 m.size,.sl (m.consts.map enc),.sl (m.rels.map enc)],fun x=>match x with| .agg [.i _ n,.sl c,.sl r]=>⟨n,c.map dec,r.map dec⟩|_=>⟨0,[],[]⟩,fun m=>by cases m;simp only[uB]⟩
@[go_sem] theorem tk {m:dd}:enc m= .agg [.i .i64 m.size,.sl (m.consts.map enc),.sl (m.rels.map enc)]:=rfl
@[go_sem] theorem zHT {i n c r}:dec (α:=dd) (.agg [.i i n,.sl c,.sl r])=⟨n,dec (.sl c),dec (.sl r)⟩:=rfl
theorem s8:∀x y:List UInt8,Op.bytesLess x y=decide (x<y)
 |[],[]=>by rfl
 |_::_,[]=>by rfl
 |[],_::_=>by rfl
 |a::x,b::y=>by grind[Op.bytesLess,List.cons_lt_cons_iff,s8 x y]
def mE (a b:Str):Int:=if a.l<b.l then-1 else if b.l<a.l then 1 else 0
def mj (a b:Int):Int:=if a<b then-1 else if b<a then 1 else 0
def p7 (a b:gV):Int:=if mE a.name b.name≠0 then mE a.name b.name else mj a.arity b.arity
def gW:List Int→List Int→Int
 |[],[]=>0
 |[],_::_=> -1
 |_::_,[]=>1
 |a::as,b::bs=>if mj a b≠0 then mj a b else gW as bs
theorem wY {a b:Int}:mj a b=0↔a=b:=by grind[mj]
theorem LQ {a b:Int}:mj a b<0↔a<b:=by grind[mj]
theorem VG (l:List UInt8):¬l<l:=List.lt_irrefl l
theorem VH {a b c:List UInt8}(h:a<b)(h2:b<c):a<c:=ap
theorem Od (a b:List UInt8):a<b∨a=b∨b<a:=ap
theorem yr {a b:Str}:mE a b=0↔a=b:=by
 unfold mE;constructor
 ·intro h;rcases Od a.l b.l with h1|h1|h1
  ·grind
  ·cases a;simp_all
  grind
 grind
theorem CE {a b:Str}:mE a b<0↔a.l<b.l:=by unfold mE;grind
theorem KH {a b:gV}:p7 a b=0↔a.name=b.name∧a.arity=b.arity:=by
 unfold p7;split
 all_goals simp_all[yr,wY]
def ltR (a b:gV):Prop:=a.name.l<b.name.l∨(a.name=b.name∧a.arity<b.arity)
theorem LU {a b:gV}:p7 a b<0↔ltR a b:=by
 unfold p7 ltR;split
 all_goals simp_all[CE,yr,LQ,VG]
theorem Zd {a b c:gV}(h:ltR a b)(h2:ltR b c):ltR a c:=by
 rcases h with h|⟨h,h'⟩<;>rcases h2 with h2|⟨h2,h2'⟩
 ·exact .inl (VH h h2)
 ·exact .inl ap
 ·exact .inl ap
 ·exact .inr ap
theorem Jn {α:Type}(p:α→Bool):∀(l:List α) (i:Nat),i≤l.length→(∀j (h:j<l.length),j<i→p l[j]=true)→(∀j (h:j<l.length),i≤j→p l[j]=false)→(l.filter p).length=i
 |[],i,hi,_,_=>ap
 |a::l,0,_,_,h2=>by
  rw[List.filter_eq_nil_iff.2]
  ·rfl
  ·intro x hx;obtain⟨j,hj,rfl⟩:=bI hx;grind
 |a::l,i+1,hi,h1,h2=>by have ha:=h1 0 ak ae;grind[Jn p l i (by simpa using hi) (fun j hj h=>by have:=h1 (j+1) qWg ae;simpa using this) (fun j hj h=>by have:=h2 (j+1) qWg ae;simpa using this)]
def pE (m:dd)(w:Str):Option dT:=m.consts.find? fun c=>decide (c.name=w)
def qR (m:dd)(w:Str)(n:Int):Option gV:=m.rels.find? fun r=>decide (r.name=w∧r.arity=n)
def lX:List dT→Str→Option Int
 |[],_=>none
 |e::es,w=>match lX es w with
  |some v=>some v
  |none=>if e.name=w then some e.value else none
theorem IK (w:Str):∀(a b:List dT),lX (a++b) w=match lX b w with|some v=>some v|none=>lX a w
 |[],b=>by grind[lX]
 |e::a,b=>by grind[lX,IK w a b]
theorem Ig (a:List dT)(e:dT)(w:Str):lX (a++[e]) w=if e.name=w then some e.value else lX a w:=by grind[IK,lX]
def sI (m:dd)(w:Str):Int:=match pE m w with|some c=>c.value|none=>0
def iE (m:dd)(env:List dT)(w:Str):Int:=match lX env w with|some v=>v|none=>sI m w
def sR (m:dd)(w:Str)(n:Int):List (List Int):=match qR m w n with|some r=>r.tuples|none=>[]
def mV (m:dd):List Int:=(List.range m.size.toNat).map Int.ofNat
mutual
def fB (m:dd):aH→List dT→Bool
 | .mk k nm ws s,env=>
  if k=1 then true
  else if k=2 then decide (ws.map (iE m env)∈sR m nm ws.length)
  else if k=3 then decide (iE m env (ws.getD 0 ⟨[]⟩)=iE m env (ws.getD 1 ⟨[]⟩))
  else if k=4 then !(lv m s env).getD 0 false
  else if k=5 then(lv m s env).getD 0 false&&(lv m s env).getD 1 false
  else if k=6 then(lv m s env).getD 0 false||(lv m s env).getD 1 false
  else if k=7 then !(lv m s env).getD 0 false||(lv m s env).getD 1 false
  else if k=8 then(mV m).all fun v=>(lv m s (env++[⟨nm,v⟩])).getD 0 false
  else if k=9 then(mV m).any fun v=>(lv m s (env++[⟨nm,v⟩])).getD 0 false
  else false
def lv (m:dd):List aH→List dT→List Bool
 |[],_=>[]
 |f::fs,env=>fB m f env::lv m fs env
end
mutual
def gE:aH→Nat
 | .mk k _ _ s=>lq s+if isQ k then 1 else 0
def lq:List aH→Nat
 |[]=>0
 |f::fs=>max (gE f) (lq fs)
end
mutual
def sY (m:dd):aH→Bool
 | .mk k nm ws s=>(!decide (k=2)||(qR m nm ws.length).isSome)&&rW m s
def rW (m:dd):List aH→Bool
 |[]=>true
 |f::fs=>sY m f&&rW m fs
end
mutual
def vok:aH→Prop
 | .mk k _ ws s=>1≤k∧k≤9∧(k=2→ws.length≤3)∧(k=3→ws.length=2)∧(k=4∨k=8∨k=9→s.length=1)∧(k=5∨k=6∨k=7→s.length=2)∧lI s
def lI:List aH→Prop
 |[]=>True
 |f::fs=>vok f∧lI fs
end
theorem tC:∀l:List aH,lI l↔∀f∈l,vok f
 |[]=>by rw[lI];simp
 |f::l=>by rw[lI,tC l];simp
theorem fU {f:aH}:vok f↔1≤f.kind∧f.kind≤9∧(f.kind=2→f.words.length≤3)∧(f.kind=3→f.words.length=2)∧(f.kind=4∨f.kind=8∨f.kind=9→f.subs.length=1)∧(f.kind=5∨f.kind=6∨f.kind=7→f.subs.length=2)∧lI f.subs:=by cases f;rfl
mutual
theorem Nk:∀(f:aH) (d:Int) (n:Nat),(chk false f d n).1.code=0→vok f
 | .mk k nm w s,d,n,h=>by
  rw[chk]at h;split at h
  ·rename_i h1;exact absurd h h1
  ·rename_i h1;have h2:=wF (bT.1 h1);have h3:=h2.2.2.2.2;have h4:(if k=2 then decide (w.length≤3)else if k=3 then decide (w.length=2)else decide (w.length=0))=true:=h2.2.2.2.1;simp only[iS]at h3;have h5:iU false (.mk k nm w s)=lz k:=by unfold iU;simp[dS]
   rw[h5]at h3;unfold lz at h3;rw[vok];have h6:=Mv s _ _ h;refine⟨?_,?_,fun e=>?_,fun e=>?_,fun e=>?_,fun e=>?_,h6⟩
   ·repeat'(first|omega|split at h3)
   ·repeat'(first|omega|split at h3)
   ·rw[aF e]at h4;simpa using h4
   ·rw[az ae,aF e]at h4;simpa using h4
   ·rw[az ae,aF e]at h3;omega
   ·rw[az ae,az ae,aF e]at h3;omega
theorem Mv:∀(fs:List aH) (d:Int) (n:Nat),(gX false fs d n).1.code=0→lI fs
 |[],d,n,_=>by rw[lI];trivial
 |f::fs,d,n,h=>by
  rw[gX]at h;split at h
  ·omega
  ·rename_i h1;rw[lI];exact⟨Nk f d n ae,Mv fs d _ h⟩
end
theorem wM {f:aH}(h:(dB false f).code=0):vok f:=Nk f 1 0 h
theorem Cd:∀{a b:List Int},gW a b=0↔a=b
 |[],[]=>by simp[gW]
 |[],_::_=>by simp[gW]
 |_::_,[]=>by simp[gW]
 |a::as,b::bs=>by
  rw[gW];split
  ·simp_all[wY]
  ·rename_i h;have h:=wY.1 (bT.1 h);rw[Cd,h];simp
theorem Jg:∀{a b c:List Int},gW a b<0→gW b c≤0→gW a c<0
 |[],[],_,h,_=>by simp[gW]at h
 |[],_::_,[],_,h=>by simp[gW]at h
 |[],_::_,_::_,_,_=>by simp[gW]
 |_::_,[],_,h,_=>by simp[gW]at h
 |_::_,_::_,[],_,h=>by simp[gW]at h
 |a::as,b::bs,c::cs,h,h2=>by rw[gW]at h h2 ⊢;have key:=fun h1 h2=>Jg (a:=as) (b:=bs) (c:=cs) h1 h2;grind[mj]
structure re (m:dd):Prop where
 c:∀i j (hi:i<m.consts.length) (hj:j<m.consts.length),i<j→m.consts[i].name.l<m.consts[j].name.l
 r:∀i j (hi:i<m.rels.length) (hj:j<m.rels.length),i<j→ltR m.rels[i] m.rels[j]
 t:∀r∈m.rels,∀i j (hi:i<r.tuples.length) (hj:j<r.tuples.length),i<j→gW r.tuples[i] r.tuples[j]<0
 s1:1≤m.size
 s6:m.size≤6
 lc:m.consts.length≤10000000
 lr:m.rels.length≤300
theorem Zy {m:dd}{p:Int→Bool}(h:∀v:Nat,(v:Int)<m.size→p v=true):(mV m).all p=true:=by simp_all[mV]
theorem Lk {m:dd}{v:Nat}(h:(v:Int)<m.size):(v:Int)∈mV m:=be.2 ap
theorem Wc {m:dd}{p:Int→Bool}{v:Nat}(h:(v:Int)<m.size)(hp:p v=false):(mV m).all p=false:=by grind[Lk]
theorem Zz {m:dd}{p:Int→Bool}{v:Nat}(h:(v:Int)<m.size)(hp:p v=true):(mV m).any p=true:=by grind[Lk]
theorem Wd {m:dd}{p:Int→Bool}(h:∀v:Nat,(v:Int)<m.size→p v=false):(mV m).any p=false:=by simp_all[mV]
mutual
def wfE:aH→Prop
 | .mk k nm _ s=>(k=5→s.length=2)∧(k=9→s.length=1)∧(k=2→nm.l≠[])∧pL s
def pL:List aH→Prop
 |[]=>True
 |f::fs=>wfE f∧pL fs
end
mutual
theorem QU {op:Bool}:∀(f:aH) (d:Int) (n:Nat),(chk op f d n).1.code=0→wfE f
 | .mk k nm w s,d,n,h=>by
  rw[chk]at h;split at h
  ·rename_i h1;exact absurd h h1
  ·rename_i h1;have h2:=wF (bT.1 h1);have h3:=h2.2.2.2.2;simp only[iS]at h3;rw[wfE];refine⟨fun e=>?_,fun e=>?_,fun e=>?_,LN s _ _ h⟩
   ·subst e;have:iU op (aH.mk 5 nm w s)=2:=by simp[iU,lz,dS]
    omega
   ·subst e;have:iU op (aH.mk 9 nm w s)=1:=by simp[iU,lz,dS]
    omega
   ·have hn:=h2.2.1 (by unfold named;exact ba (.inl e));simp only[rm]at hn;unfold dI at hn;have:=(bO hn).1;intro e2;rw[e2]at this;simp at this
theorem LN {op:Bool}:∀(fs:List aH) (d:Int) (n:Nat),(gX op fs d n).1.code=0→pL fs
 |[],d,n,_=>by rw[pL];trivial
 |f::fs,d,n,h=>by
  rw[gX]at h;split at h
  ·omega
  ·rename_i h1;rw[pL];exact⟨QU f d n (bT.1 h1),LN fs d _ h⟩
end
mutual
def oE:aH→List aH
 | .mk k nm ws s=>if k=5∧s.length=2 then vz s else[.mk k nm ws s]
def vz:List aH→List aH
 |[]=>[]
 |f::fs=>oE f++fs
end
theorem Za {f a b:aH}(hk:f.kind=5)(hs:f.subs=[a,b]):oE f=oE a++[b]:=by
 cases f with
 |mk k nm ws s=>simp_all[dS,iS,oE,vz]
theorem Zb {f:aH}(h:¬(f.kind=5∧f.subs.length=2)):oE f=[f]:=by
 cases f with
 |mk k nm ws s=>simp_all[dS,iS,oE]
theorem xA {s:List aH}(h:s.length=2):∃a b,s=[a,b]:=by
 match s,h with
 |[a,b],_=>simp
theorem Ak {s:List aH}(h:s.length=1):∃a,s=[a]:=by
 match s,h with
 |[a],_=>simp
def xF:aH:= .mk 0 ⟨[]⟩ [] []
def rC (f:aH):List aH:=oE (f.subs.getD 0 xF)
def tH (f:aH):aH:=(rC f).getD 0 xF
def okE (f:aH):Bool:=decide (f.kind=9)&&decide ((tH f).kind=2)&&decide ((tH f).words.length=1)&&decide ((tH f).words.getD 0 ⟨[]⟩=f.name)
def r7 (i:Nat):Str:=⟨97::114::103::fV (i+1)⟩
def LF (f:aH)(i:Nat)(x:aH):Bool:=decide (x.kind=2)&&decide (x.name=r7 i)&&decide (x.words.length=2)&&decide (x.words.getD 0 ⟨[]⟩=f.name)&& !decide (x.words.getD 1 ⟨[]⟩=f.name)
def xi (f:aH):Nat→Bool
 |0=>true
 |i+1=>xi f i&&LF f i ((rC f).getD (i+1) xF)
def CK (f:aH)(i:Nat):List Str:=(List.range i).map fun j=>((rC f).getD (j+1) xF).words.getD 1 ⟨[]⟩
def wG (f:aH):Bool:=okE f&&decide (2≤(rC f).length)&&decide ((rC f).length≤4)&&xi f ((rC f).length-1)
def rA (f:aH):aH:=if wG f then .mk 2 (tH f).name (CK f ((rC f).length-1)) []else f
mutual
def gu (by':aH→aH):aH→aH
 | .mk k nm ws s=>by' (.mk k nm ws (fS by' s))
def fS (by':aH→aH):List aH→List aH
 |[]=>[]
 |f::fs=>gu by' f::fS by' fs
end
theorem sc (by':aH→aH):∀l:List aH,fS by' l=l.map (gu by')
 |[]=>by rfl
 |f::l=>by rw[fS,sc by' l];rfl
theorem XY (by':aH→aH)(f:aH):gu by' f=by' (.mk f.kind f.name f.words (f.subs.map (gu by'))):=by cases f;rw[gu,sc];rfl
theorem We {f:aH}(h:okE f=true):f.kind=9∧(tH f).kind=2:=by simp_all[okE]
theorem Hy {f:aH}(h:wG f=true):okE f=true:=by simp_all[wG]
mutual
theorem WC {by':aH→aH}(hb:∀f,wfE f→wfE (by' f)):∀f:aH,wfE f→wfE (gu by' f)
 | .mk k nm ws s,h=>by rw[wfE]at h;rw[gu];refine hb _ ?_;rw[wfE,sc,aG];refine⟨h.1,h.2.1,h.2.2.1,?_⟩;rw[←sc];exact Bz hb s h.2.2.2
theorem Bz {by':aH→aH}(hb:∀f,wfE f→wfE (by' f)):∀fs:List aH,pL fs→pL (fS by' fs)
 |[],_=>by rw[fS,pL];trivial
 |f::fs,h=>by rw[pL]at h;rw[fS,pL];exact⟨WC hb f h.1,Bz hb fs h.2⟩
end
mutual
theorem VM {by':aH→aH}{c:Nat}(hb:∀f,(by' f).size≤f.size+c):∀f:aH,(gu by' f).size≤f.size*(c+1)
 | .mk k nm ws s=>by rw[gu];have h1:=hb (.mk k nm ws (fS by' s));have h2:=HF hb s;rw[aH.size]at h1 ⊢;grind
theorem HF {by':aH→aH}{c:Nat}(hb:∀f,(by' f).size≤f.size+c):∀fs:List aH,aH.sizes (fS by' fs)≤aH.sizes fs*(c+1)
 |[]=>by grind[fS]
 |f::fs=>by rw[fS,aH.sizes,aH.sizes,ci];have h1:=VM hb f;have h2:=HF hb fs;omega
end
mutual
theorem VQ {by':aH→aH}(hb:∀f,f.fit=true→(by' f).fit=true):∀f:aH,f.fit=true→(gu by' f).fit=true
 | .mk k nm ws s,h=>by rw[aH.fit]at h;simp only[aS]at h;rw[gu];refine hb _ ?_;rw[aH.fit,sc,aG,←sc,HX hb s h.2,h.1.1,h.1.2];rfl
theorem HX {by':aH→aH}(hb:∀f,f.fit=true→(by' f).fit=true):∀fs:List aH,aH.fits fs=true→aH.fits (fS by' fs)=true
 |[],_=>by rfl
 |f::fs,h=>by rw[aH.fits,aS]at h;rw[fS,aH.fits,VQ hb f h.1,HX hb fs h.2];rfl
end
mutual
theorem Wp {by':aH→aH}{p:Str→Prop}(hb:∀f,wfE f→eu p f→eu p (by' f))(hw:∀f,wfE f→wfE (by' f)):∀f:aH,wfE f→eu p f→eu p (gu by' f)
 | .mk k nm ws s,h2,h=>by
  have h3:=h2;rw[wfE]at h3;rw[eu]at h;rw[gu];refine hb _ ?_ ?_
  ·grind[wfE,sc,Bz]
  ·rw[eu];exact⟨h.1,h.2.1,HD hb hw s h3.2.2.2 h.2.2⟩
theorem HD {by':aH→aH}{p:Str→Prop}(hb:∀f,wfE f→eu p f→eu p (by' f))(hw:∀f,wfE f→wfE (by' f)):∀fs:List aH,pL fs→eD p fs→eD p (fS by' fs)
 |[],_,_=>by rw[fS,eD];trivial
 |f::fs,h2,h=>by rw[eD]at h;rw[pL]at h2;rw[fS,eD];exact⟨Wp hb hw f h2.1 h.1,HD hb hw fs h2.2 h.2⟩
end
def qM:Str:=⟨[63]⟩
def dM:Str:=⟨[36]⟩
def oR (v:Str)(nm:Str)(ws:List Str):aH:= .mk 9 v [] [nS 5 (.mk 2 nm [v] []::(List.range ws.length).map fun i=> .mk 2 (r7 i) [v,ws.getD i ⟨[]⟩] [])]
def nL (v:Str)(ps:List Str)(f:aH):aH:=if f.kind=2∧0<f.words.length∧f.name∈ps then oR v f.name f.words else f
theorem tc (v:Str)(ps:List Str)(k:Int)(nm:Str)(ws:List Str)(s:List aH):nL v ps (.mk k nm ws s)=if k=2∧0<ws.length∧nm∈ps then oR v nm ws else .mk k nm ws s:=rfl
theorem X' (nm:Str)(ws:List Str)(h:∀w∈ws,sg w=w):jk sg (oR qM nm ws)=oR dM nm ws:=by
 have e:sg qM=dM:=rfl;have hh:(aH.mk 2 nm [qM] []::(List.range ws.length).map fun i=>aH.mk 2 (r7 i) [qM,ws.getD i ⟨[]⟩] []).map (jk sg)=aH.mk 2 nm [dM] []::(List.range ws.length).map fun i=>aH.mk 2 (r7 i) [dM,ws.getD i ⟨[]⟩] []:=by
  rw[aM,bX];congr 1;refine bB fun i hi=>?_;have hi:=dW.1 hi;have hm:ws.getD i ⟨[]⟩∈ws:=by rw[av,ay hi];exact ap
  show jk sg (aH.mk 2 (r7 i) [qM,ws.getD i ⟨[]⟩] [])=_;rw[jk,az ai,aM,aM,aQ,e,h _ hm,iX]
 grind[oR,jk,iX,Y0,isQ]
mutual
theorem ZC (ps:List Str):∀f:aH,eu (fun w=>sg w=w) f→gu (nL dM ps) f=jk sg (gu (nL qM ps) f)
 | .mk k nm ws s,h=>by
  have h2:=h;rw[eu]at h;rw[gu,gu,Jd ps s h.2.2];rw[tc,tc];split
  ·rw[X' nm ws h.1]
  ·rw[jk];congr 1
   ·grind
   ·conv=>lhs;rw[←gK ws]
    grind[List.map_congr_left]
theorem Jd (ps:List Str):∀fs:List aH,eD (fun w=>sg w=w) fs→fS (nL dM ps) fs=iX sg (fS (nL qM ps) fs)
 |[],_=>by rfl
 |f::fs,h=>by rw[eD]at h;rw[fS,fS,iX,ZC ps f h.1,Jd ps fs h.2]
end
def swP (x:Str):Prop:=(x.l.head? =some 63→x=qM)∧x.l.head? ≠some 36∧¬iP x
theorem C2 {x:Str}(h:dI x=true):swP x:=by have:=Qq (n:=0) h;exact⟨fun e=>by obtain⟨i,hi,_⟩:=this.1 e;omega,this.2⟩
theorem AG:swP qM:=⟨fun _=>rfl,by simp[qM],by simp[iP,qM]⟩
theorem V3 {ws:List Str}{i:Nat}(h:i<ws.length):ws.getD i ⟨[]⟩∈ws:=ap
theorem W6 {nm:Str}{ws:List Str}(h:∀w∈ws,swP w):eu swP (oR qM nm ws):=by
 unfold oR;simp only[eu,eD];refine⟨ak,fun _=>AG,Js swP 5 ai ((yG _ _).2 fun g hg=>?_),trivial⟩;rcases aV.1 hg with rfl|hg
 ·rw[eu,eD];exact⟨by simp_all[AG],fun e=>absurd e ai,trivial⟩
 ·obtain⟨i,hi,rfl⟩:=be.1 hg;have hi:=dW.1 hi;rw[eu,eD];refine⟨fun w hw=>?_,fun e=>absurd e ai,trivial⟩;simp only[aV,aZ,ct]at hw;grind[AG]
mutual
theorem Yb (ps:List Str):∀f:aH,eu (fun w=>dI w=true) f→eu swP (gu (nL qM ps) f)
 | .mk k nm ws s,h=>by
  rw[eu]at h;rw[gu];rw[tc];split
  ·grind[W6,C2]
  ·rw[eu];exact⟨by simp_all[C2],by simp_all[C2],Iz ps s h.2.2⟩
theorem Iz (ps:List Str):∀fs:List aH,eD (fun w=>dI w=true) fs→eD swP (fS (nL qM ps) fs)
 |[],_=>by rw[fS,eD];trivial
 |f::fs,h=>by rw[eD]at h;rw[fS,eD];exact⟨Yb ps f h.1,Iz ps fs h.2⟩
end
mutual
theorem VX (ps:List Str):∀(f:aH) (bd:List Str) (x:Str),eu (fun w=>dI w=true) f→x∈cst (gu (nL qM ps) f) bd→x≠qM
 | .mk k nm ws s,bd,x,h,hx=>by
  rw[eu]at h;rw[gu]at hx;rw[tc]at hx;split at hx
  ·unfold oR at hx;rw[cst,aF (by simp_all[isQ]),ef,ef]at hx;simp only[List.filter_nil,aK,bP]at hx;have:=KK _ _ _ hx;grind
  ·rw[cst,aO]at hx;rcases hx with hx|hx
   ·have:=h.1 x ap;intro e;rw[e]at this;exact absurd this ai
   ·exact IA ps s _ x h.2.2 hx
theorem IA (ps:List Str):∀(fs:List aH) (bd:List Str) (x:Str),eD (fun w=>dI w=true) fs→x∈ef (fS (nL qM ps) fs) bd→x≠qM
 |[],bd,x,_,hx=>by simp_all[fS,ef]
 |f::fs,bd,x,h,hx=>by
  rw[eD]at h;rw[fS,ef,aO]at hx;rcases hx with hx|hx
  ·exact VX ps f bd x h.1 hx
  ·exact IA ps fs bd x h.2 hx
end
abbrev PE:=List (Str×Str)
def o0:PE→Str→Str→Prop
 |[],w,w'=>w=w'
 |(a,b)::E,w,w'=>(w=a∧w'=b)∨(w≠a∧w'≠b∧o0 E w w')
def mU (E:PE):List Str→List Str→Prop
 |[],[]=>True
 |w::ws,w'::ws'=>o0 E w w'∧mU E ws ws'
 |[],_::_=>False
 |_::_,[]=>False
mutual
def Aeq:PE→aH→aH→Prop
 |E,.mk k nm ws s,.mk k' nm' ws' s'=>k=k'∧(¬isQ k→nm=nm')∧mU E ws ws'∧gj (if isQ k then(nm,nm')::E else E) s s'
def gj:PE→List aH→List aH→Prop
 |_,[],[]=>True
 |E,f::fs,g::gs=>Aeq E f g∧gj E fs gs
 |_,[],_::_=>False
 |_,_::_,[]=>False
end
theorem HP {E:PE}:∀{a b:List Str},mU E a b→a.length=b.length
 |[],[],_=>rfl
 |_::a,_::b,h=>by grind[HP h.2]
 |[],_::_,h=>by simp_all[mU]
 |_::_,[],h=>by simp_all[mU]
theorem JS {E:PE}:∀{a b:List aH},gj E a b→a.length=b.length
 |[],[],_=>rfl
 |_::a,_::b,h=>by grind[JS h.2]
 |[],_::_,h=>by simp_all[gj]
 |_::_,[],h=>by simp_all[gj]
theorem Me {E:PE}:∀{a b c d:List aH},gj E a b→gj E c d→gj E (a++c) (b++d)
 |[],[],_,_,_,h=>h
 |_::a,_::b,_,_,h,h2=>by grind[gj,Me h.2 h2]
 |[],_::_,_,_,h,_=>by simp_all[gj]
 |_::_,[],_,_,h,_=>by simp_all[gj]
theorem Ls {E:PE}{s s':Str→Str}(h:∀w w',o0 E w w'→s w=s' w'):∀{a b:List Str},mU E a b→a.map s=b.map s'
 |[],[],_=>rfl
 |w::a,w'::b,hw=>by grind[mU,Ls h hw.2]
 |[],_::_,h=>by simp_all[mU]
 |_::_,[],h=>by simp_all[mU]
mutual
theorem YQ {g:Nat→Str×Nat}:∀(f f':aH) (E:PE) (env env':List cX) (n:Nat),Aeq E f f'→(∀w w',o0 E w w'→lkp env w=lkp env' w')→ren g f env n=ren g f' env' n
 | .mk k nm ws s,.mk k' nm' ws' s',E,env,env',n,h,he=>by
  rw[Aeq]at h;obtain⟨rfl,h2,h3,h4⟩:=h;rw[ren,ren,Ls he h3];by_cases hq:isQ k
  ·rw[aF hq]at h4;simp only[aF hq];rw[CP (g:=g) s s' ((nm,nm')::E) (env++[(⟨nm,(g n).1⟩:cX)]) (env'++[(⟨nm',(g n).1⟩:cX)]) (g n).2 h4 fun w w' hw=>?_];grind[ph,o0]
  ·rw[az hq]at h4;simp only[az hq];rw[CP (g:=g) s s' E env env' n h4 he,h2 hq]
theorem CP {g:Nat→Str×Nat}:∀(f f':List aH) (E:PE) (env env':List cX) (n:Nat),gj E f f'→(∀w w',o0 E w w'→lkp env w=lkp env' w')→dj g f env n=dj g f' env' n
 |[],[],E,env,env',n,_,_=>by rfl
 |f::fs,f'::fs',E,env,env',n,h,he=>by rw[gj]at h;rw[dj,dj,YQ f f' E env env' n h.1 he];rw[CP fs fs' E env env' _ h.2 he]
 |[],_::_,_,_,_,_,h,_=>by simp_all[gj]
 |_::_,[],_,_,_,_,h,_=>by simp_all[gj]
end
theorem HU {E:PE}{bd bd':List Str}(hb:∀w w',o0 E w w'→(w∈bd↔w'∈bd')∧(w∉bd→w=w')):∀{a b:List Str},mU E a b→a.filter (fun w=>decide (w∉bd))=b.filter (fun w=>decide (w∉bd'))
 |[],[],_=>rfl
 |w::a,w'::b,hw=>by grind[mU,HU hb hw.2]
 |[],_::_,h=>by simp_all[mU]
 |_::_,[],h=>by simp_all[mU]
mutual
theorem YP:∀(f f':aH) (E:PE) (bd bd':List Str),Aeq E f f'→(∀w w',o0 E w w'→(w∈bd↔w'∈bd')∧(w∉bd→w=w'))→cst f bd=cst f' bd'
 | .mk k nm ws s,.mk k' nm' ws' s',E,bd,bd',h,he=>by
  rw[Aeq]at h;obtain⟨rfl,h2,h3,h4⟩:=h;rw[cst,cst,HU he h3];by_cases hq:isQ k
  ·rw[aF hq]at h4;rw[aF hq,aF hq];rw[CO s s' ((nm,nm')::E) (bd++[nm]) (bd'++[nm']) h4 fun w w' hw=>?_];grind[o0]
  ·rw[az hq]at h4;rw[az hq,az hq,CO s s' E bd bd' h4 he]
theorem CO:∀(f f':List aH) (E:PE) (bd bd':List Str),gj E f f'→(∀w w',o0 E w w'→(w∈bd↔w'∈bd')∧(w∉bd→w=w'))→ef f bd=ef f' bd'
 |[],[],E,bd,bd',_,_=>by rfl
 |f::fs,f'::fs',E,bd,bd',h,he=>by rw[gj]at h;rw[ef,ef,YP f f' E bd bd' h.1 he,CO fs fs' E bd bd' h.2 he]
 |[],_::_,_,_,_,h,_=>by simp_all[gj]
 |_::_,[],_,_,_,h,_=>by simp_all[gj]
end
mutual
theorem ZN {used:List Str}:∀(f:aH) (E:PE) (env:List cX) (bd:List Str) (n:Nat),(∀w,w∈bd∨w∈used→o0 E w (lkp env w)∧(lkp env w∈used∨∃j,j<n∧lkp env w=gA j))→(∀x∈cst f bd,x∈used)→Aeq E f (ren (vg used) f env n).1
 | .mk k nm ws s,E,env,bd,n,he,hc=>by
  rw[cst]at hc;have hw:mU E ws (ws.map (lkp env)):=by
   have:∀l:List Str,(∀w∈l,w∈ws)→mU E l (l.map (lkp env)):=by
    intro l;induction l with
    |nil=>simp_all[mU]
    |cons w l ih=>grind[mU]
   exact ap
  rw[ren];by_cases hq:isQ k
  ·rw[aF hq]at hc;rw[aF hq,Aeq,aF hq];obtain⟨a1,_,a3,_⟩:=mS used n;refine⟨rfl,ap,hw,Dj s _ _ (bd++[nm]) _ (fun w hw2=>?_) ap⟩;rw[ph,o0];by_cases e:nm=w
   ·rw[aF e];exact⟨ap,.inr ⟨iy used n,gq _,rfl⟩⟩
   grind[C6,vg]
  ·rw[az hq]at hc;rw[az hq,Aeq,az hq];exact⟨rfl,fun _=>rfl,hw,Dj s _ _ bd _ he ap⟩
theorem Dj {used:List Str}:∀(fs:List aH) (E:PE) (env:List cX) (bd:List Str) (n:Nat),(∀w,w∈bd∨w∈used→o0 E w (lkp env w)∧(lkp env w∈used∨∃j,j<n∧lkp env w=gA j))→(∀x∈ef fs bd,x∈used)→gj E fs (dj (vg used) fs env n).1
 |[],E,env,bd,n,_,_=>by rw[dj,gj];trivial
 |f::fs,E,env,bd,n,he,hc=>by
  rw[ef]at hc;rw[dj,gj];refine⟨ZN f E env bd n he ap,Dj fs E env bd _ (fun w hw=>?_) ap⟩;obtain⟨h1,h2⟩:=he w hw;refine⟨h1,?_⟩;rcases h2 with h2|⟨j,hj,h2⟩
  ·grind
  ·have:=((rT (vY used)).1 f env n).1;grind
end
mutual
theorem WA:∀(f f':aH) (E:PE),Aeq E f f'→gj E (oE f) (oE f')
 | .mk k nm ws s,.mk k' nm' ws' s',E,h=>by
  have h0:=h;rw[Aeq]at h;obtain⟨rfl,h2,h3,h4⟩:=h;have hl:=JS h4;rw[oE,oE,←hl];by_cases hk:k=5∧s.length=2
  ·rw[aF hk,aF hk];rw[az (by rw[hk.1];decide)]at h4;exact Xn s s' E h4
  grind[gj]
theorem Xn:∀(f f':List aH) (E:PE),gj E f f'→gj E (vz f) (vz f')
 |[],[],E,_=>by rw[vz,gj];trivial
 |f::fs,f'::fs',E,h=>by grind[gj,vz,Me,WA f f' E h.1]
 |[],_::_,_,h=>by simp_all[gj]
 |_::_,[],_,h=>by simp_all[gj]
end
mutual
theorem VP {by':aH→aH}(hb:∀E f f',Aeq E f f'→Aeq E (by' f) (by' f')):∀(f f':aH) (E:PE),Aeq E f f'→Aeq E (gu by' f) (gu by' f')
 | .mk k nm ws s,.mk k' nm' ws' s',E,h=>by rw[Aeq]at h;rw[gu,gu];refine hb _ _ _ ?_;rw[Aeq];exact⟨h.1,h.2.1,h.2.2.1,HW hb s s' _ h.2.2.2⟩
theorem HW {by':aH→aH}(hb:∀E f f',Aeq E f f'→Aeq E (by' f) (by' f')):∀(f f':List aH) (E:PE),gj E f f'→gj E (fS by' f) (fS by' f')
 |[],[],E,_=>by rw[fS,gj];trivial
 |f::fs,f'::fs',E,h=>by rw[gj]at h;rw[fS,fS,gj];exact⟨VP hb f f' E h.1,HW hb fs fs' E h.2⟩
 |[],_::_,_,h=>by simp_all[gj]
 |_::_,[],_,h=>by simp_all[gj]
end
mutual
theorem VI {by':aH→aH}(hb:∀f,(by' f).depth≤f.depth):∀f:aH,(gu by' f).depth≤f.depth
 | .mk k nm ws s=>by rw[gu];refine bz (hb _) ?_;rw[aH.depth,aH.depth];have:=HJ hb s;omega
theorem HJ {by':aH→aH}(hb:∀f,(by' f).depth≤f.depth):∀fs:List aH,aH.depths (fS by' fs)≤aH.depths fs
 |[]=>by simp_all[fS]
 |f::fs=>by rw[fS,aH.depths,aH.depths];have h1:=VI hb f;have h2:=HJ hb fs;omega
end
mutual
theorem Ws (g:Nat→Str×Nat):∀(f:aH) (env:List cX) (n:Nat),(ren g f env n).1.depth=f.depth
 | .mk k nm ws s,env,n=>by
  rw[ren];split
  ·rw[aH.depth,aH.depth,B2 g s]
  ·rw[aH.depth,aH.depth,B2 g s]
theorem B2 (g:Nat→Str×Nat):∀(fs:List aH) (env:List cX) (n:Nat),aH.depths (dj g fs env n).1=aH.depths fs
 |[],env,n=>by rw[dj]
 |f::fs,env,n=>by rw[dj,aH.depths,aH.depths,Ws g f,B2 g fs]
end
def xV (op:Bool)(f:aH):Prop:=(f.subs.length:Int)=iU op f∧pA f=true∧(named f=true→¬isQ f.kind→dI f.name=true)∧(named f=false→f.name=⟨[]⟩)
mutual
def shp (op:Bool):aH→Prop
 | .mk k nm w s=>xV op (.mk k nm w s)∧ij op s
def ij (op:Bool):List aH→Prop
 |[]=>True
 |f::fs=>shp op f∧ij op fs
end
theorem Qx {op:Bool}{f:aH}{d:Int}{n:Nat}(hs:xV op f)(hn:n+1≤200)(hd:d≤40)(hw:∀w∈f.words,dI w=true)(hq:isQ f.kind→dI f.name=true):jV op f d n=0:=by obtain⟨h1,h2,h3,h4⟩:=hs;unfold jV;grind
mutual
theorem QD {op:Bool}:∀(f:aH) (d:Int) (n:Nat),shp op f→eu (fun w=>dI w=true) f→n+f.size≤200→d+f.depth≤41→chk op f d n=(⟨0,0⟩,n+f.size)
 | .mk k nm ws s,d,n,hs,ha,hn,hd=>by rw[shp]at hs;rw[eu]at ha;rw[aH.size]at hn ⊢;rw[aH.depth]at hd;have:=Qx (d:=d) (n:=n) hs.1 ae ae ha.1 ha.2.1;rw[chk,az ae,Nn s (d+1) (n+1) hs.2 ha.2.2 ae ae];grind
theorem Nn {op:Bool}:∀(fs:List aH) (d:Int) (n:Nat),ij op fs→eD (fun w=>dI w=true) fs→n+aH.sizes fs≤200→d+aH.depths fs≤41→gX op fs d n=(⟨0,0⟩,n+aH.sizes fs)
 |[],d,n,_,_,_,_=>by rfl
 |f::fs,d,n,hs,ha,hn,hd=>by rw[ij]at hs;rw[eD]at ha;rw[aH.sizes]at hn ⊢;rw[aH.depths]at hd;rw[gX,QD f d n hs.1 ha.1 ae ae,az ak,Nn fs d _ hs.2 ha.2 ae ae];grind
end
mutual
theorem Nj {op:Bool}:∀(f:aH) (d:Int) (n:Nat),(chk op f d n).1.code=0→shp op f∧d+f.depth≤41
 | .mk k nm w s,d,n,h=>by
  rw[chk]at h;split at h
  ·grind
  ·rename_i h1;have h1:=bT.1 h1;have h2:=wF h1;have h3:=Mu s _ _ h;have hd:d≤40:=by
    unfold jV at h1;split at h1
    ·omega
    ·omega
   rw[shp,aH.depth];exact⟨⟨⟨h2.2.2.2.2,h2.2.2.2.1,ap,h2.2.2.1⟩,h3.1⟩,ae⟩
theorem Mu {op:Bool}:∀(fs:List aH) (d:Int) (n:Nat),(gX op fs d n).1.code=0→ij op fs∧(aH.depths fs=0∨d+aH.depths fs≤41)
 |[],d,n,_=>by simp_all[ij,aH.depths]
 |f::fs,d,n,h=>by
  rw[gX]at h;split at h
  ·omega
  ·rename_i h1;have h2:=Nj f d n (bT.1 h1);have h3:=Mu fs d _ h;grind[ij,aH.depths]
end
theorem HL {op:Bool}{f:aH}(h:(dB op f).code=0):shp op f:=(Nj f 1 0 h).1
theorem Cu {op:Bool}{k:Int}{nm nm':Str}{w w':List Str}{s s':List aH}(h:xV op (.mk k nm w s))(hl:w'.length=w.length)(hs:s'.length=s.length)(hn:¬isQ k→nm'=nm)(_hq:isQ k→True):xV op (.mk k nm' w' s'):=by
 obtain⟨h1,h2,h3,h4⟩:=h;refine⟨?_,?_,fun h5 h6=>?_,fun h5=>?_⟩
 ·simp only[iS]at h1 ⊢;rw[hs,h1];rfl
 ·have:pA (.mk k nm' w' s')=pA (.mk k nm w s):=by show(if k=2 then decide (w'.length≤3)else if k=3 then decide (w'.length=2)else decide (w'.length=0))=_;rw[hl];rfl
  grind
 all_goals grind[dS,rm,isQ,named]
mutual
theorem LD {op:Bool}(g:Nat→Str×Nat):∀(f:aH) (env:List cX) (n:Nat),shp op f→shp op (ren g f env n).1
 | .mk k nm ws s,env,n,h=>by
  rw[shp]at h;rw[ren];split
  ·rename_i hq;rw[shp];exact⟨Cu h.1 ap (rI g _ s _) ap fun _=>trivial,CU g s _ _ h.2⟩
  ·rw[shp];exact⟨Cu h.1 ap (rI g _ s _) (fun _=>rfl) fun _=>trivial,CU g s _ _ h.2⟩
theorem CU {op:Bool}(g:Nat→Str×Nat):∀(fs:List aH) (env:List cX) (n:Nat),ij op fs→ij op (dj g fs env n).1
 |[],env,n,_=>by rw[dj,ij];trivial
 |f::fs,env,n,h=>by rw[ij]at h;rw[dj,ij];exact⟨LD g f _ _ h.1,CU g fs _ _ h.2⟩
end
theorem Hv {n:Nat}(h:n<10):fV n=[UInt8.ofNat (48+n)]:=by simp_all[fV,Lib.decDigits]
theorem Kb:∀(k u:Nat),u<10^(k+1)→(fV u).length≤k+1∧∀c∈fV u,48≤c.toNat∧c.toNat≤57:=by
 intro k;induction k with
 |zero=>grind[Hv,UInt8.toNat_ofNat']
 |succ k ih=>
  intro u h;rcases aA u 10 with h1|h1
  ·grind
  ·have h2:=ih (u / 10) ae;have e:fV u=fV (u / 10)++[UInt8.ofNat (48+u % 10)]:=by unfold fV;rw[Lib.decDigits,dif_neg ae]
   grind[UInt8.toNat_ofNat']
theorem WF {j:Nat}(h:j<10^20):dI (gA j)=true:=by
 have h1:=Kb 19 j h;refine yL ?_ ?_ ?_ fun i hi=>?_
 ·simp[gA]
 ·grind[gA]
 ·simp[gA,mZ]
 ·simp only[gA,aN]at hi ⊢;cases i with
  |zero=>show okc (118:UInt8);decide
  |succ i=>
   rw[di];have hm:(fV j).getD i 0∈fV j:=by rw[av,ay ae];exact ap
   have:=h1.2 _ hm;exact .inr ae
mutual
theorem Wt {used:List Str}{B:Nat}{p:Str→Prop}(hv:∀j,j<B→p (gA j)):∀(f:aH) (env:List cX) (bd:List Str) (n:Nat),n+(used.length+1)*f.size≤B→(∀w∈bd,p (lkp env w))→(∀w,w∉bd→lkp env w=w)→(∀x∈cst f bd,p x)→eu p (ren (vg used) f env n).1
 | .mk k nm ws s,env,bd,n,hn,h1,h2,hc=>by
  rw[aH.size,ej,fO]at hn;rw[cst]at hc;have hw:∀w∈ws.map (lkp env),p w:=ap
  have hg:=mS used n;rw[ren];by_cases hq:isQ k
  ·rw[aF hq]at hc;have hvn:p (gA (iy used n)):=hv _ ae;rw[aF hq,eu];refine⟨hw,fun _=>hvn,B3 hv s _ (bd++[nm]) _ ?_ (fun w hw2=>?_) (fun w hw2=>?_) ap⟩
   ·show iy used n+1+_≤B;omega
   ·rw[ph];by_cases e:nm=w
    ·rw[aF e];exact hvn
    grind
   grind[ph]
  ·rw[az hq]at hc;rw[az hq,eu];exact⟨hw,ap,B3 hv s _ bd _ ae h1 h2 ap⟩
theorem B3 {used:List Str}{B:Nat}{p:Str→Prop}(hv:∀j,j<B→p (gA j)):∀(fs:List aH) (env:List cX) (bd:List Str) (n:Nat),n+(used.length+1)*aH.sizes fs≤B→(∀w∈bd,p (lkp env w))→(∀w,w∉bd→lkp env w=w)→(∀x∈ef fs bd,p x)→eD p (dj (vg used) fs env n).1
 |[],env,bd,n,_,_,_,_=>by rw[dj,eD];trivial
 |f::fs,env,bd,n,hn,h1,h2,hc=>by rw[aH.sizes,ej]at hn;rw[ef]at hc;rw[dj,eD];have:=((rT (vY used)).1 f env n).2;exact⟨Wt hv f env bd n ae h1 h2 ap,B3 hv fs env bd _ ae h1 h2 ap⟩
end
mutual
theorem rM:∀(f:aH) (bd:List Str),f.fit=true→(cst f bd).length≤1000*f.size
 | .mk k nm ws s,bd,h=>by rw[aH.fit]at h;simp only[aS,bi]at h;rw[cst,aD,aH.size];have h1:=jG (fun w=>decide (w∉bd)) ws;have h2:=L4 s (if isQ k then bd++[nm]else bd) h.2;omega
theorem L4:∀(fs:List aH) (bd:List Str),aH.fits fs=true→(ef fs bd).length≤1000*aH.sizes fs
 |[],bd,_=>by rw[ef];simp
 |f::fs,bd,h=>by rw[aH.fits,aS]at h;rw[ef,aD,aH.sizes];have h1:=rM f bd h.1;have h2:=L4 fs bd h.2;omega
end
mutual
def Dd:aH→Bool
 | .mk k nm ws s=>okE (.mk k nm ws s)||zi s
def zi:List aH→Bool
 |[]=>false
 |f::fs=>Dd f||zi fs
end
theorem Jt:∀(l:List aH) (f:aH),(∀g∈l,g.kind≠5)→oE (l.foldl (fun a x=>aH.mk 5 ⟨[]⟩ [] [a,x]) f)=oE f++l
 |[],f,_=>ak
 |x::l,f,h=>by rw[bQ,Jt l _ ap,Za (a:=f) (b:=x) rfl rfl];simp
theorem Iu {by':aH→aH}(hb:∀f,f.kind≠9→by' f=f):∀(l:List aH) (f:aH),(∀g∈l,gu by' g=g)→gu by' f=f→gu by' (l.foldl (fun a x=>aH.mk 5 ⟨[]⟩ [] [a,x]) f)=l.foldl (fun a x=>aH.mk 5 ⟨[]⟩ [] [a,x]) f
 |[],f,_,h=>h
 |x::l,f,h,hf=>by rw[bQ];refine Iu hb l _ ap ?_;rw[gu,fS,fS,fS,hf,h x ak,hb (.mk 5 ⟨[]⟩ [] [f,x]) (show(5:Int)≠9 by decide)]
theorem HT {f:aH}(h:f.kind≠9):rA f=f:=by grind[rA,We,Hy]
theorem Yp {α:Type}(l:List α)(d:α):(List.range l.length).map (fun i=>l.getD i d)=l:=by refine cC ak fun i h1 h2=>?_;grind
theorem WW {v nm:Str}{ws:List Str}(h1:0<ws.length)(h3:ws.length≤3)(hv:∀w∈ws,w≠v):gu rA (oR v nm ws)= .mk 2 nm ws []:=by
 obtain⟨l,hl⟩:∃l,((List.range ws.length).map fun i=>aH.mk 2 (r7 i) [v,ws.getD i ⟨[]⟩] [])=l:=⟨_,rfl⟩;have hll:l.length=ws.length:=by rw[←hl];simp
 have hat:∀i,i<ws.length→l.getD i xF= .mk 2 (r7 i) [v,ws.getD i ⟨[]⟩] []:=fun i hi=>by rw[←hl,av,bp,fm hi];rfl
 have hmem:∀g∈l,g.kind=2∧g.subs=[]:=fun g hg=>by rw[←hl]at hg;obtain⟨i,_,rfl⟩:=be.1 hg;exact⟨rfl,rfl⟩
 have hid:∀g:aH,g.kind=2→g.subs=[]→gu rA g=g:=fun g hk hs=>by rw[XY,hs,aQ,HT (by simp only[dS];omega)];cases g;simp only[iS]at hs;subst hs;rfl
 unfold oR;rw[hl];have hj:gu rA (nS 5 (.mk 2 nm [v] []::l))=nS 5 (.mk 2 nm [v] []::l):=
  Iu (fun f h=>HT h) l _ (fun g hg=>hid g (hmem g hg).1 (hmem g hg).2) (hid _ rfl rfl)
 rw[gu,fS,fS,hj];have hp:rC (.mk 9 v [] [nS 5 (.mk 2 nm [v] []::l)])= .mk 2 nm [v] []::l:=by
  unfold rC;show oE (nS 5 (.mk 2 nm [v] []::l))=_;have:=Jt l (.mk 2 nm [v] []) fun g hg=>by rw[(hmem g hg).1];decide
  rw[Zb (f:= .mk 2 nm [v] []) (fun h=>absurd h.1 (show¬(2:Int)=5 by decide))]at this;exact this
 have hh:tH (.mk 9 v [] [nS 5 (.mk 2 nm [v] []::l)])= .mk 2 nm [v] []:=by unfold tH;rw[hp];rfl
 have hok:okE (.mk 9 v [] [nS 5 (.mk 2 nm [v] []::l)])=true:=by unfold okE;rw[hh];simp[dS,pT,rm]
 have hgd:∀n,n≤ws.length→xi (.mk 9 v [] [nS 5 (.mk 2 nm [v] []::l)]) n=true:=by
  intro n;induction n with
  |zero=>intro _;rw[xi]
  |succ n ih=>intro hn;rw[xi,ih ae,hp,di,hat n ae];have:=hv _ (V3 (ws:=ws) (i:=n) ae);simp only[LF,dS,pT,rm,dr,di,aN,bj,aW this];simp
 have hwn:CK (.mk 9 v [] [nS 5 (.mk 2 nm [v] []::l)]) ws.length=ws:=by
  unfold CK;rw[hp]
  conv=>rhs;rw[←Yp ws ⟨[]⟩]
  refine bB fun j hj=>?_;rw[di,hat j (dW.1 hj)];rfl
 unfold rA;have hm:wG (.mk 9 v [] [nS 5 (.mk 2 nm [v] []::l)])=true:=by unfold wG;rw[hok,hp,aN,hll];simp only[dl,hgd ws.length (aI _)];simp only[cZ,iR,aS,bi];omega
 rw[aF hm,hh,hp,aN,hll,dl,hwn];rfl
mutual
theorem VU {v:Str}{ps:List Str}:∀f:aH,shp false f→eu (fun w=>w≠v) f→Dd f=false→gu rA (gu (nL v ps) f)=f
 | .mk k nm ws s,hs,ha,hm=>by
  rw[shp]at hs;rw[eu]at ha;rw[Dd,Bool.or_eq_false_iff]at hm;rw[gu,tc];split
  ·rename_i hc;obtain⟨rfl,h0,_⟩:=hc;have h3:ws.length≤3:=by have:=hs.1.2.1;rw[show pA (.mk 2 nm ws s)=decide (ws.length≤3)from rfl]at this;exact ap
   have h4:s=[]:=by have:=hs.1.1;rw[show iU false (.mk 2 nm ws s)=0 from rfl]at this;simp only[iS]at this;exact bG ae
   simp_all[WW]
  ·rw[gu,Ia s hs.2 ha.2.2 hm.2];grind[rA,Hy]
theorem Ia {v:Str}{ps:List Str}:∀fs:List aH,ij false fs→eD (fun w=>w≠v) fs→zi fs=false→fS rA (fS (nL v ps) fs)=fs
 |[],_,_,_=>by rfl
 |f::fs,hs,ha,hm=>by rw[ij]at hs;rw[eD]at ha;rw[zi,Bool.or_eq_false_iff]at hm;rw[fS,fS,VU f hs.1 ha.1 hm.1,Ia fs hs.2 ha.2 hm.2]
end
theorem LK {op:Bool}:∀(l:List aH) (f:aH),ij op l→shp op f→shp op (l.foldl (fun a x=>aH.mk 5 ⟨[]⟩ [] [a,x]) f)
 |[],f,_,h=>h
 |x::l,f,hl,h=>by rw[ij]at hl;rw[bQ];refine LK l _ hl.2 ?_;rw[shp,ij,ij,ij];refine⟨⟨rfl,rfl,fun h2=>absurd (show false=true from h2) ai,fun _=>rfl⟩,h,hl.1,trivial⟩
theorem CY {op:Bool}:∀l:List aH,ij op l↔∀f∈l,shp op f
 |[]=>by rw[ij];simp
 |f::l=>by rw[ij,CY l];simp
theorem YS {i:Nat}(h:i<3):dI (r7 i)=true:=by
 have:i=0∨i=1∨i=2:=ae
 unfold r7;rw[Hv ae];rcases this with rfl|rfl|rfl<;>decide
theorem Ya {v nm:Str}{ws:List Str}(hn:dI nm=true)(h3:ws.length≤3):shp false (oR v nm ws):=by
 unfold oR;rw[shp,ij,ij];refine⟨⟨rfl,rfl,fun _ h=>absurd (.inr rfl) h,fun h=>?_⟩,LK _ _ ((CY _).2 fun g hg=>?_) ?_,trivial⟩
 ·simp_all[named,dS]
 ·obtain⟨i,hi,rfl⟩:=be.1 hg;have hi:=dW.1 hi;rw[shp,ij];refine⟨⟨rfl,rfl,fun _ _=>YS ae,fun h=>?_⟩,trivial⟩;simp_all[named,dS]
 ·rw[shp,ij];refine⟨⟨rfl,rfl,fun _ _=>hn,fun h=>?_⟩,trivial⟩;simp_all[named,dS]
mutual
theorem WR {v:Str}{ps:List Str}:∀f:aH,shp false f→shp false (gu (nL v ps) f)
 | .mk k nm ws s,h=>by
  rw[shp]at h;rw[gu,tc];split
  ·rename_i hc;obtain⟨rfl,h0,_⟩:=hc;have h3:ws.length≤3:=by have:=h.1.2.1;rw[show pA (.mk 2 nm ws s)=decide (ws.length≤3)from rfl]at this;exact ap
   exact Ya (h.1.2.2.1 rfl (by simp[isQ,dS])) h3
  ·rw[shp];exact⟨Cu h.1 rfl (by simp_all[sc]) (fun _=>rfl) fun _=>trivial,Je s h.2⟩
theorem Je {v:Str}{ps:List Str}:∀fs:List aH,ij false fs→ij false (fS (nL v ps) fs)
 |[],_=>by rw[fS,ij];trivial
 |f::fs,h=>by rw[ij]at h;rw[fS,ij];exact⟨WR f h.1,Je fs h.2⟩
end
mutual
theorem VV (ps:List Str):∀f:aH,eu (fun w=>dI w=true) f→eu (fun w=>dI w=true∨w=qM) (gu (nL qM ps) f)
 | .mk k nm ws s,h=>by
  rw[eu]at h;rw[gu,tc];split
  ·unfold oR;rw[eu,eD,eD];refine⟨ak,fun _=> .inr rfl,Js _ 5 ai ((yG _ _).2 fun g hg=>?_),trivial⟩;rcases aV.1 hg with rfl|hg
   ·simp_all[eu,eD]
   ·obtain⟨i,hi,rfl⟩:=be.1 hg;rw[eu,eD];refine⟨fun w hw=>?_,fun e=>absurd e ai,trivial⟩;grind
  ·rw[eu];exact⟨ap,ap,Ib ps s h.2.2⟩
theorem Ib (ps:List Str):∀fs:List aH,eD (fun w=>dI w=true) fs→eD (fun w=>dI w=true∨w=qM) (fS (nL qM ps) fs)
 |[],_=>by rw[fS,eD];trivial
 |f::fs,h=>by rw[eD]at h;rw[fS,eD];exact⟨VV ps f h.1,Ib ps fs h.2⟩
end
theorem V8 (m:dd)(ev:List dT)(nm:Str)(v:Int)(w:Str):iE m (ev++[(⟨nm,v⟩:dT)]) w=if nm=w then v else iE m ev w:=by grind[iE,Ig]
mutual
theorem RJ (m:dd){used U:List Str}:∀(f:aH) (env:List cX) (bd:List Str) (n:Nat) (ev ev':List dT),vok f→
  (∀w,w∈bd∨w∈U→iE m ev w=iE m ev' (lkp env w)∧(lkp env w∈used∨∃j,j<n∧lkp env w=gA j))→(∀x∈cst f bd,x∈U)→fB m (ren (vg used) f env n).1 ev'=fB m f ev
 | .mk k nm ws s,env,bd,n,ev,ev',hv,he,hc=>by
  rw[vok]at hv;rw[cst]at hc;have hw1:∀w∈ws,iE m ev w=iE m ev' (lkp env w):=fun w hw=>ap
  have hw:(ws.map (lkp env)).map (iE m ev')=ws.map (iE m ev):=by rw[bX];exact (by simp_all[bB])
  have hl:(ws.map (lkp env)).length=ws.length:=aG _;by_cases hq:isQ k
  ·have hs:∀v:Int,lv m (dj (vg used) s (env++[(⟨nm,(vg used n).1⟩:cX)]) (vg used n).2).1 (ev'++[(⟨(vg used n).1,v⟩:dT)])=lv m s (ev++[(⟨nm,v⟩:dT)]):=fun v=>by obtain⟨a1,_,a3,_⟩:=mS used n;rw[aF hq]at hc;refine CV m s _ (bd++[nm]) _ _ _ hv.2.2.2.2.2.2 (fun w hw2=>?_) fun x hx=>hc x (cP _ hx);grind[ph,V8,vg,C6]
   rw[ren,aF hq];rw[fB,fB]
   rcases hq with rfl|rfl<;>simp only[hs,reduceIte,show¬((8:Int)=1) by decide,show¬((8:Int)=2) by decide,show¬((8:Int)=3) by decide,show¬((8:Int)=4) by decide,show¬((8:Int)=5) by decide,show¬((8:Int)=6) by decide,show¬((8:Int)=7) by decide,
    show¬((9:Int)=1) by decide,show¬((9:Int)=2) by decide,show¬((9:Int)=3) by decide,show¬((9:Int)=4) by decide,show¬((9:Int)=5) by decide,show¬((9:Int)=6) by decide,show¬((9:Int)=7) by decide,show¬((9:Int)=8) by decide,cd,cJ]
  ·rw[az hq]at hc;have hs:=CV m s env bd n ev ev' hv.2.2.2.2.2.2 he ap;have h8:¬k=8:=fun e=>hq (.inl e);have h9:¬k=9:=fun e=>hq (.inr e);rw[ren,az hq];rw[fB,fB];simp only[hs,h8,h9,cd,hw,hl];by_cases h3:k=3
   ·have h2:=hv.2.2.2.1 h3;obtain⟨a,b,rfl⟩:∃a b,ws=[a,b]:=by
     match ws,h2 with
     |[a,b],_=>simp
    subst h3;have e0:=hw1 a ak;have e1:=hw1 b ak;simp only[aM,aQ,dr,di];rw[e0,e1]
   ·simp only[h3,cd]
theorem CV (m:dd){used U:List Str}:∀(fs:List aH) (env:List cX) (bd:List Str) (n:Nat) (ev ev':List dT),lI fs→
  (∀w,w∈bd∨w∈U→iE m ev w=iE m ev' (lkp env w)∧(lkp env w∈used∨∃j,j<n∧lkp env w=gA j))→(∀x∈ef fs bd,x∈U)→lv m (dj (vg used) fs env n).1 ev'=lv m fs ev
 |[],env,bd,n,ev,ev',hv,he,hc=>by rfl
 |f::fs,env,bd,n,ev,ev',hv,he,hc=>by
  rw[lI]at hv;rw[ef]at hc;rw[dj];simp only
  rw[lv,lv,RJ m f env bd n ev ev' hv.1 he ap,
   CV m fs env bd _ ev ev' hv.2 (fun w hw=>?_) fun x hx=>hc x (cP _ hx)]
  obtain⟨h1,h2⟩:=he w hw;refine⟨h1,?_⟩;rcases h2 with h2|⟨j,hj,h2⟩
  ·grind
  ·have:=((rT (vY used)).1 f env n).1;grind
end
theorem L5 {bd:List Str}{x:Str}:∀{l:List aH},x∈ef l bd↔∃f∈l,x∈cst f bd
 |[]=>by rw[ef];simp
 |f::l=>by grind[ef,L5 (l:=l)]
mutual
theorem Ow:∀(f f':aH) (E:PE),Aeq E f f'→gE f=gE f'
 | .mk k nm ws s,.mk k' nm' ws' s',E,h=>by rw[Aeq]at h;obtain⟨rfl,_,_,h4⟩:=h;rw[gE,gE,Ks s s' _ h4]
theorem Ks:∀(f f':List aH) (E:PE),gj E f f'→lq f=lq f'
 |[],[],_,_=>rfl
 |f::fs,f'::fs',E,h=>by rw[gj]at h;rw[lq,lq,Ow f f' E h.1,Ks fs fs' E h.2]
 |[],_::_,_,h=>by simp_all[gj]
 |_::_,[],_,h=>by simp_all[gj]
end
mutual
theorem Ov (m:dd):∀(f f':aH) (E:PE),Aeq E f f'→sY m f=sY m f'
 | .mk k nm ws s,.mk k' nm' ws' s',E,h=>by
  rw[Aeq]at h;obtain⟨rfl,h2,h3,h4⟩:=h;rw[sY,sY,Kr m s s' _ h4,HP h3];by_cases hk:k=2
  ·rw[h2 (by rw[hk];decide)]
  grind
theorem Kr (m:dd):∀(f f':List aH) (E:PE),gj E f f'→rW m f=rW m f'
 |[],[],_,_=>rfl
 |f::fs,f'::fs',E,h=>by rw[gj]at h;rw[rW,rW,Ov m f f' E h.1,Kr m fs fs' E h.2]
 |[],_::_,_,h=>by simp_all[gj]
 |_::_,[],_,h=>by simp_all[gj]
end
mutual
theorem Oq (g:Nat→Str×Nat):∀(f:aH) (env:List cX) (n:Nat),vok f→vok (ren g f env n).1
 | .mk k nm ws s,env,n,h=>by
  rw[vok]at h;rw[ren];split
  ·rw[vok,aG,rI];exact⟨h.1,h.2.1,h.2.2.1,h.2.2.2.1,h.2.2.2.2.1,h.2.2.2.2.2.1,CW g s _ _ h.2.2.2.2.2.2⟩
  ·rw[vok,aG,rI];exact⟨h.1,h.2.1,h.2.2.1,h.2.2.2.1,h.2.2.2.2.1,h.2.2.2.2.2.1,CW g s _ _ h.2.2.2.2.2.2⟩
theorem CW (g:Nat→Str×Nat):∀(fs:List aH) (env:List cX) (n:Nat),lI fs→lI (dj g fs env n).1
 |[],env,n,_=>by rw[dj,lI];trivial
 |f::fs,env,n,h=>by rw[lI]at h;rw[dj,lI];exact⟨Oq g f env n h.1,CW g fs env _ h.2⟩
end
theorem Kz {f:aH}{env:List cX}(h:vok f):vok (eC f env):=Oq _ f env 0 h
inductive Prf where
 |mk (kind form other:Int) (name:Str) (subs:List Prf)
namespace Prf
def kind:Prf→Int|mk k _ _ _ _=>k
def form:Prf→Int|mk _ f _ _ _=>f
def other:Prf→Int|mk _ _ o _ _=>o
def name:Prf→Str|mk _ _ _ n _=>n
def subs:Prf→List Prf|mk _ _ _ _ s=>s
end Prf
@[go_sem] theorem uZ {k f o n s}:(Prf.mk k f o n s).kind=k:=rfl
@[go_sem] theorem uY {k f o n s}:(Prf.mk k f o n s).form=f:=rfl
@[go_sem] theorem uN {k f o n s}:(Prf.mk k f o n s).other=o:=rfl
@[go_sem] theorem M1 {k f o n s}:(Prf.mk k f o n s).name=n:=rfl
@[go_sem] theorem u' {k f o n s}:(Prf.mk k f o n s).subs=s:=rfl
@[go_sem] theorem cT {p:Prf}:Prf.mk p.kind p.form p.other p.name p.subs=p:=by cases p;rfl
mutual
def uh:Prf→FD
 | .mk k f o n s=> .agg [.i .i64 k,.i .i64 f,.i .i64 o,.s n.l,.sl (vO s)]
def vO:List Prf→List FD
 |[]=>[]
 |f::fs=>uh f::vO fs
end
mutual
def lJ:FD→Prf
 | .agg [.i _ k,.i _ f,.i _ o,.s n,.sl s]=> .mk k f o ⟨n⟩ (vT s)
 |_=> .mk 0 0 0 ⟨[]⟩ []
def vT:List FD→List Prf
 |[]=>[]
 |x::xs=>lJ x::vT xs
end
mutual
theorem J':∀f,lJ (uh f)=f
 | .mk k f o n s=>by simp only[uh,lJ,Ik s]
theorem Ik:∀s,vT (vO s)=s
 |[]=>rfl
 |f::fs=>by simp only[vO,vT,J' f,Ik fs]
end
instance:Enc Prf:=⟨uh,lJ,J'⟩
theorem Kl:∀s:List Prf,vO s=s.map enc
 |[]=>rfl
 |f::fs=>by rw[vO,Kl fs];rfl
theorem Ka:∀s:List FD,vT s=dec (α:=List Prf) (.sl s)
 |[]=>rfl
 |f::fs=>by rw[vT,Ka fs];rfl
@[go_sem] theorem iq {p:Prf}:enc p= .agg [.i .i64 p.kind,.i .i64 p.form,.i .i64 p.other,.s p.name.l,.sl (p.subs.map enc)]:=by
 cases p with
 |mk k f o n s=>show uh _=_;rw[uh,Kl];rfl
@[go_sem] theorem zMc {i j h k f o n s}:dec (α:=Prf) (.agg [.i i k,.i j f,.i h o,.s n,.sl s])= .mk k f o ⟨n⟩ (dec (.sl s)):=by show lJ _=_;rw[lJ,Ka]
instance:Kc Prf 5:=⟨fun f=>by rw[iq];rfl⟩
@[go_sem] theorem zIY {l:List Prf}:dP (l.map enc) 5=True:=aU (qA l)
@[go_sem] theorem zGL {l:List Prf}:(bA (l.map enc)).all fh=true:=by rw[cB];intro d hd;simp only[bA,ff,be]at hd;obtain⟨_,⟨a,_,rfl⟩,x,hx,rfl⟩:=hd;simp only[iq,FD.cells,aV,aZ,ct]at hx;rcases hx with rfl|rfl|rfl|rfl|rfl<;>rfl
mutual
def Prf.size:Prf→Nat
 | .mk _ _ _ _ s=>Prf.sizes s+1
def Prf.sizes:List Prf→Nat
 |[]=>0
 |f::fs=>f.size+Prf.sizes fs
end
theorem Prf.size_mem:∀{l:List Prf} {f:Prf},f∈l→f.size≤Prf.sizes l
 |g::l,f,h=>by
  rw[Prf.sizes];rcases aV.1 h with rfl|h
  ·omega
  ·have:=Prf.size_mem h;omega
theorem Prf.size_sub {f g:Prf}(h:g∈f.subs):g.size<f.size:=by
 cases f with
 |mk k f o n w=>rw[Prf.size];have:=Prf.size_mem (show g∈w from h);omega
mutual
def q8:Prf→Int→Int
 | .mk _ _ _ _ s,n=>qP s (n+1)
def qP:List Prf→Int→Int
 |[],n=>n
 |x::xs,n=>if 2000<n then n else qP xs (q8 x n)
end
mutual
theorem Rb:∀(p:Prf) (n:Int),n≤2000→n+1≤q8 p n∧q8 p n≤2001
 | .mk k f o nm s,n,h=>by rw[q8];have:=LV s (n+1) ae;omega
theorem LV:∀(s:List Prf) (n:Int),n≤2001→n≤qP s n∧qP s n≤2001
 |[],n,h=>by rw[qP];omega
 |x::xs,n,h=>by
  rw[qP];split
  ·omega
  ·have h1:=Rb x n ae;have h2:=LV xs (q8 x n) h1.2;omega
end
def cnn (f:aH):aH:=eC f []
def ngg (f:aH):aH:=eC (eJ f) []
def dv (f:aH):aH:=f.subs.getD 0 (.mk 0 ⟨[]⟩ [] [])
def qc (f:aH):aH:=f.subs.getD 1 (.mk 0 ⟨[]⟩ [] [])
def bY (f:aH):Int×List aH×aH×Bool:=
 if f.kind=5 then(1,[cnn (dv f),cnn (qc f)],fQ,false)
 else if f.kind=6 then(2,[cnn (dv f),cnn (qc f)],fQ,false)
 else if f.kind=7 then(2,[ngg (dv f),cnn (qc f)],fQ,false)
 else if f.kind=8 then(3,[],f,false)
 else if f.kind=9 then(4,[],f,false)
 else if f.kind=4 then
  if(dv f).kind=4 then(1,[cnn (dv (dv f))],fQ,false)
  else if(dv f).kind=5 then(2,[ngg (dv (dv f)),ngg (qc (dv f))],fQ,false)
  else if(dv f).kind=6 then(1,[ngg (dv (dv f)),ngg (qc (dv f))],fQ,false)
  else if(dv f).kind=7 then(1,[cnn (dv (dv f)),ngg (qc (dv f))],fQ,false)
  else if(dv f).kind=8 then(4,[],dv f,true)
  else if(dv f).kind=9 then(3,[],dv f,true)
  else(0,[],fQ,false)
 else(0,[],fQ,false)
structure brF (f:aH):Prop where
 v:vok f
 ft:f.fit=true
 s:f.size≤800
theorem brF.sub {f g:aH}(h:brF f)(hg:g∈f.subs):brF g:=by have hv:=h.v;obtain⟨k,nm,ws,s⟩:=f;rw[vok]at hv;have hf:=h.ft;rw[aH.fit]at hf;simp only[aS]at hf;exact⟨(tC s).1 hv.2.2.2.2.2.2 g hg,aH.fits_mem hf.2 hg,by have:=aH.size_sub hg;have:=h.s;omega⟩
theorem nz {f:aH}(h:brF f)(hk:f.kind=4∨f.kind=8∨f.kind=9):∃a,f.subs=[a]∧dv f=a∧brF a:=by
 have h1:=(fU.1 h.v).2.2.2.2.1 hk
 match hs:f.subs,h1 with
 |[a],_=>exact⟨a,rfl,by unfold dv;grind,h.sub ap⟩
theorem oV {f:aH}(h:brF f)(hk:f.kind=5∨f.kind=6∨f.kind=7):∃a b,f.subs=[a,b]∧dv f=a∧qc f=b∧brF a∧brF b:=by
 have h1:=(fU.1 h.v).2.2.2.2.2.1 hk
 match hs:f.subs,h1 with
 |[a,b],_=>exact⟨a,b,rfl,by unfold dv;grind,by unfold qc;grind,h.sub ap,h.sub ap⟩
def dp (c:List cX)(w:Str):Str:=c.foldl (fun r l=>if r=l.fr then l.to else r) w
structure wfC (c:List cX):Prop where
 d:∀i j (hi:i<c.length) (hj:j<c.length),j<i→c[j].fr≠c[i].fr
 t:∀i j (hi:i<c.length) (hj:j<c.length),j≤i→c[j].fr≠c[i].to
theorem BK (c:List cX)(l:cX)(w:Str):dp (c++[l]) w=if dp c w=l.fr then l.to else dp c w:=by grind[dp]
theorem zq6 (a b:List cX)(w:Str):dp (a++b) w=dp b (dp a w):=by simp_all[dp]
theorem yP:∀{c:List cX} {w:Str},(∀l∈c,l.fr≠w)→dp c w=w
 |[],w,_=>rfl
 |l::c,w,h=>by
  have h1:¬w=l.fr:=ap
  show dp c (if w=l.fr then l.to else w)=w;rw[az h1,yP ap]
theorem Se {a b:List cX}(h:wfC (a++b)):wfC a:=by
 refine⟨fun i j hi hj hij=>?_,fun i j hi hj hij=>?_⟩
 ·have:=h.d i j ap ap hij;grind
 ·have:=h.t i j ap ap hij;grind
theorem QJ {c:List cX}{l:cX}(h:wfC c)(h1:∀x∈c,x.fr≠l.fr)(h2:∀x∈c,x.fr≠l.to)(h3:l.fr≠l.to):wfC (c++[l]):=by
 have hl:(c++[l]).length=c.length+1:=ak
 refine⟨fun i j hi hj hij=>?_,fun i j hi hj hij=>?_⟩
 ·rw[hl]at hi;have hj2:j<c.length:=ae
  rw[c5 hj2];rcases aA i c.length with h4|h4
  ·rw[c5 h4];exact h.d i j h4 hj2 hij
  grind
 ·rw[hl]at hi;rcases aA i c.length with h4|h4
  ·have hj2:j<c.length:=ae
   rw[c5 hj2,c5 h4];exact h.t i j h4 hj2 hij
  grind
theorem Lm {α:Type}:∀(l:List α),l=[]∨∃a x,l=a++[x]
 |[]=> .inl rfl
 |x::l=> .inr (by
  rcases Lm l with rfl|⟨a,y,rfl⟩
  ·exact⟨[],x,rfl⟩
  ·exact⟨x::a,y,rfl⟩)
theorem Ih:∀(n:Nat) (c:List cX),c.length=n→wfC c→∀w,∀l∈c,l.fr≠dp c w
 |0,c,hn,_,w,l,hl=>ap
 |n+1,c,hn,h,w,l,hl=>by
  rcases Lm c with rfl|⟨a,x,rfl⟩
  ·grind
  have hla:a.length=n:=by simpa using hn
  have ih:=Ih n a hla (Se h) w;have hxa:(a++[x])[a.length]' ak=x:=by rw[iA (aI _)];simp
  rw[BK];by_cases e:dp a w=x.fr
  ·rw[aF e];obtain⟨j,hj,rfl⟩:=bI hl;have:=h.t a.length j ak hj ae;grind
  grind
theorem Yw {c:List cX}(h:wfC c){i:Nat}(hi:i<c.length):dp c c[i].fr=dp c c[i].to:=by
 have hc:c=c.take i++c[i]::c.drop (i+1):=by rw[←aR hi,cQ]
 have h1:dp (c.take i) c[i].fr=c[i].fr:=yP fun l hl=>by obtain⟨j,hj,rfl⟩:=bI hl;rw[aX]at hj;rw[mI];exact h.d i j hi ae ae
 have h2:dp (c.take i++[c[i]]) c[i].to=c[i].to:=yP fun l hl=>by
  rcases aO.1 hl with hl|hl
  ·obtain⟨j,hj,rfl⟩:=bI hl;rw[aX]at hj;rw[mI];exact h.t i j hi ae ae
  ·rw[a7.1 hl];exact h.t i i hi hi (aI _)
 grind[dp]
def l4 (c:List cX)(f:aH):List cX:=
 if f.kind≠3 then c
 else if dp c (f.words.getD 0 ⟨[]⟩)=dp c (f.words.getD 1 ⟨[]⟩)then c
 else c++[⟨dp c (f.words.getD 0 ⟨[]⟩),dp c (f.words.getD 1 ⟨[]⟩)⟩]
def ii (l:List aH):List cX:=l.foldl l4 []
theorem YD (l:List aH)(f:aH):ii (l++[f])=l4 (ii l) f:=by simp_all[ii]
theorem Ru {c:List cX}(h:wfC c)(f:aH):wfC (l4 c f):=by
 unfold l4;split
 ·exact h
 ·split
  all_goals simp_all[QJ,Ih]
theorem Qo (c:List cX)(f:aH):(l4 c f).length≤c.length+1:=by grind[l4]
theorem EC (l:List aH):wfC (ii l)∧(ii l).length≤l.length:=by
 unfold ii;suffices h:∀(l:List aH) (c:List cX),wfC c→wfC (l.foldl l4 c)∧(l.foldl l4 c).length≤c.length+l.length by have:=h l [] ⟨ap,ap⟩;grind
 intro l;induction l with
 |nil=>simp
 |cons f l ih=>grind[Ru,Qo]
def iF (c:List cX)(f g:aH):Bool:=decide (f.kind=2)&&decide (g.kind=2)&&decide (f.name=g.name)&&decide (f.words.map (dp c)=g.words.map (dp c))
def jP (c:List cX)(f:aH):Bool:=decide (f.kind=4)&&(decide ((dv f).kind=1)||decide ((dv f).kind=3)&&decide (dp c ((dv f).words.getD 0 ⟨[]⟩)=dp c ((dv f).words.getD 1 ⟨[]⟩)))
def lx (f:aH)(name:Str):aH:=eC (dv f) [⟨f.name,name⟩]
def gP (q:aH)(turned:Bool)(name:Str):aH:=if turned then ngg (lx q name)else lx q name
def r8 (l:List aH)(name:Str):Bool:=l.any fun f=>decide (name∈eR f)
def D8 (f:aH)(nm:Str):Str:=if f.words.getD 0 ⟨[]⟩=nm then f.words.getD 1 ⟨[]⟩else f.words.getD 0 ⟨[]⟩
def inL (l:List aH)(i:Int):Bool:=decide (0≤i)&&decide (i<l.length)
def atL (l:List aH)(i:Int):aH:=l.getD i.toNat fQ
def sK (l:List aH)(f g:aH):Bool:=decide (ngg f=g)||decide (g.kind=4)&&iF (ii l) f (dv g)
def lf (k fo ot:Int)(nm:Str)(cs:List (List aH→Bool))(l:List aH):Bool:=
 if inL l fo=false then false
 else if k=1 then decide (cs.length=0)&&inL l ot&&(if ot=fo then jP (ii l) (atL l fo)else sK l (atL l fo) (atL l ot))
 else if k=2 then decide ((bY (atL l fo)).1=1)&&decide (cs.length=1)&&cs.getD 0 (fun _=>false) (l++(bY (atL l fo)).2.1)
 else if k=3 then decide ((bY (atL l fo)).1=2)&&decide (cs.length=2)&&cs.getD 0 (fun _=>false) (l++[(bY (atL l fo)).2.1.getD 0 fQ])&&cs.getD 1 (fun _=>false) (l++[(bY (atL l fo)).2.1.getD 1 fQ])
 else if k=4 then decide ((bY (atL l fo)).1=3)&&dI nm&&decide (cs.length=1)&&cs.getD 0 (fun _=>false) (l++[gP (bY (atL l fo)).2.2.1 (bY (atL l fo)).2.2.2 nm])
 else if k=5 then decide ((bY (atL l fo)).1=4)&&dI nm&& !r8 l nm&&decide (cs.length=1)&&cs.getD 0 (fun _=>false) (l++[gP (bY (atL l fo)).2.2.1 (bY (atL l fo)).2.2.2 nm])
 else if k=6 then decide ((atL l fo).kind=3)&&inL l ot&&decide (cs.length=1)&&decide (nm∈(atL l fo).words)&&cs.getD 0 (fun _=>false) (l++[eC (atL l ot) [⟨nm,D8 (atL l fo) nm⟩]])
 else false
mutual
def dC:Prf→List aH→Bool
 | .mk k fo ot nm s,l=>lf k fo ot nm (xT s) l
def xT:List Prf→List (List aH→Bool)
 |[]=>[]
 |p::ps=>dC p::xT ps
end
theorem KC:∀l:List Prf,xT l=l.map dC
 |[]=>rfl
 |p::l=>by rw[xT,KC l];rfl
theorem ov (p:Prf)(l:List aH):dC p l=lf p.kind p.form p.other p.name (p.subs.map dC) l:=by cases p;rw[dC,KC];rfl
theorem brF.cn {f:aH}(h:brF f){env:List cX}:brF (eC f env):=⟨Kz h.v,by rw[BQ];exact h.ft,by rw[uw];exact h.s⟩
theorem brF.ng {f:aH}(h:brF f)(hs:f.size+1≤800):brF (ngg f):=by
 unfold ngg;refine⟨Kz ?_,?_,?_⟩
 ·unfold eJ;rw[vok,lI,lI];exact⟨ai,ai,ae,ae,fun _=>rfl,fun e=>ae,h.v,trivial⟩
 ·rw[BQ];simp[eJ,aH.fit,aH.fits,h.ft]
 simp_all[uw,eJ,aH.size,aH.sizes]
theorem qz {f a:aH}(h:f.subs=[a]):f.size=a.size+1:=by
 cases f with
 |mk k nm ws s=>simp_all[iS,aH.size,aH.sizes]
theorem sB {f a b:aH}(h:f.subs=[a,b]):f.size=a.size+b.size+1:=by
 cases f with
 |mk k nm ws s=>simp_all[iS,aH.size,aH.sizes]
theorem pV {f:aH}(h:brF f):(∀g∈(bY f).2.1,brF g)∧((bY f).1=2→(bY f).2.1.length=2)∧(bY f).2.1.length≤2∧
  (((bY f).1=3∨(bY f).1=4)→∃a,(bY f).2.2.1.subs=[a]∧brF a∧a.size+1≤800):=by
 have hs:=h.s;by_cases k5:f.kind=5
 ·obtain⟨a,b,hab,s0,s1,ha,hb⟩:=oV h ae;have hz:=sB hab;have hpa:=a.size_pos;have hpb:=b.size_pos;have e:bY f=(1,[cnn a,cnn b],fQ,false):=by unfold bY;rw[s0,s1,k5];rfl
  rw[e];refine⟨fun x hx=>?_,ae,aI _,ae⟩;simp only[aV,aZ,ct]at hx;rcases hx with rfl|rfl
  ·exact ha.cn
  ·exact hb.cn
 by_cases k6:f.kind=6
 ·obtain⟨a,b,hab,s0,s1,ha,hb⟩:=oV h ae;have hz:=sB hab;have hpa:=a.size_pos;have hpb:=b.size_pos;have e:bY f=(2,[cnn a,cnn b],fQ,false):=by unfold bY;rw[s0,s1,k6];rfl
  rw[e];refine⟨fun x hx=>?_,fun _=>rfl,aI _,ae⟩;simp only[aV,aZ,ct]at hx;rcases hx with rfl|rfl
  ·exact ha.cn
  ·exact hb.cn
 by_cases k7:f.kind=7
 ·obtain⟨a,b,hab,s0,s1,ha,hb⟩:=oV h ae;have hz:=sB hab;have hpa:=a.size_pos;have hpb:=b.size_pos;have e:bY f=(2,[ngg a,cnn b],fQ,false):=by unfold bY;rw[s0,s1,k7];rfl
  rw[e];refine⟨fun x hx=>?_,fun _=>rfl,aI _,ae⟩;simp only[aV,aZ,ct]at hx;rcases hx with rfl|rfl
  ·exact ha.ng ae
  ·exact hb.cn
 by_cases k8:f.kind=8
 ·obtain⟨a,ha,s0,hb⟩:=nz h ae;simp_all[qz,bY]
 by_cases k9:f.kind=9
 ·obtain⟨a,ha,s0,hb⟩:=nz h ae;simp_all[qz,bY]
 by_cases k4:f.kind=4
 ·obtain⟨g,hg,s0,hbg⟩:=nz h (.inl k4);have hzg:=qz hg;by_cases j4:g.kind=4
  ·obtain⟨a,ha,t0,hb⟩:=nz hbg (.inl j4);have e:bY f=(1,[cnn a],fQ,false):=by unfold bY;rw[s0,t0,k4,j4];rfl
   rw[e];refine⟨fun x hx=>?_,ae,ak,ae⟩;rw[a7.1 hx];exact hb.cn
  by_cases j5:g.kind=5
  ·obtain⟨a,b,hab,t0,t1,ha,hb⟩:=oV hbg ae;have hz:=sB hab;have hpa:=a.size_pos;have hpb:=b.size_pos;have e:bY f=(2,[ngg a,ngg b],fQ,false):=by unfold bY;rw[s0,t0,t1,k4,j5];rfl
   rw[e];refine⟨fun x hx=>?_,fun _=>rfl,aI _,ae⟩;simp only[aV,aZ,ct]at hx;rcases hx with rfl|rfl
   ·exact ha.ng ae
   ·exact hb.ng ae
  by_cases j6:g.kind=6
  ·obtain⟨a,b,hab,t0,t1,ha,hb⟩:=oV hbg ae;have hz:=sB hab;have hpa:=a.size_pos;have hpb:=b.size_pos;have e:bY f=(1,[ngg a,ngg b],fQ,false):=by unfold bY;rw[s0,t0,t1,k4,j6];rfl
   rw[e];refine⟨fun x hx=>?_,ae,aI _,ae⟩;simp only[aV,aZ,ct]at hx;rcases hx with rfl|rfl
   ·exact ha.ng ae
   ·exact hb.ng ae
  by_cases j7:g.kind=7
  ·obtain⟨a,b,hab,t0,t1,ha,hb⟩:=oV hbg ae;have hz:=sB hab;have hpa:=a.size_pos;have hpb:=b.size_pos;have e:bY f=(1,[cnn a,ngg b],fQ,false):=by unfold bY;rw[s0,t0,t1,k4,j7];rfl
   rw[e];refine⟨fun x hx=>?_,ae,aI _,ae⟩;simp only[aV,aZ,ct]at hx;rcases hx with rfl|rfl
   ·exact ha.cn
   ·exact hb.ng ae
  by_cases j8:g.kind=8
  ·obtain⟨a,ha,t0,hb⟩:=nz hbg ae;have hz:=qz ha;have e:bY f=(4,[],g,true):=by unfold bY;rw[s0,k4,j8];rfl
   grind
  by_cases j9:g.kind=9
  ·obtain⟨a,ha,t0,hb⟩:=nz hbg ae;have hz:=qz ha;have e:bY f=(3,[],g,true):=by unfold bY;rw[s0,k4,j9];rfl
   grind
  simp_all[bY]
 simp_all[bY]
theorem NE {q a:aH}{t:Bool}{nm:Str}(hq:q.subs=[a])(ha:brF a)(hs:a.size+1≤800):brF (gP q t nm):=by
 have e:lx q nm=eC a [⟨q.name,nm⟩]:=by unfold lx dv;rw[hq];rfl
 unfold gP;rw[e];cases t with
 |false=>exact ha.cn
 |true=>exact(ha.cn).ng (by rw[uw];omega)
def jn (sep:List UInt8):List Str→List UInt8
 |[]=>[]
 |w::ws=>w.l++ws.flatMap fun v=>sep++v.l
theorem NF {sep:List UInt8}{ws:List Str}{i:Nat}(h:i<ws.length):jn sep (ws.take (i+1))=if i=0 then ws[i].l else jn sep (ws.take i)++sep++ws[i].l:=by
 cases ws with
 |nil=>grind
 |cons w ws=>
  cases i with
  |zero=>simp[jn]
  |succ i=>grind[jn,List.take_succ_eq_append_getElem]
theorem IJ {sep:List UInt8}{ws:List Str}{i:Nat}:(jn sep (ws.take i)).length≤(jn sep ws).length:=by
 cases ws with
 |nil=>simp
 |cons w ws=>
  cases i with
  |zero=>simp[jn]
  |succ i=>rw[bm,jn,jn,aD,aD];have:=a8 (fun l=>(l.flatMap fun v=>sep++Str.l v).length) (cQ i ws);grind
def txN (k:Int)(nm:Str)(ws:List Str)(ts:List (List UInt8)):List UInt8:=
 if k=1 then[116,114,117,101]
 else if k=2 then nm.l++[40]++jn [44] ws++[41]
 else if k=3 then nm.l++[40]++jn [32,61,32] ws++[41]
 else if k=4 then 45::ts.getD 0 []
 else if k=8 then[97,108,108,32]++nm.l++[32]++ts.getD 0 []
 else if k=9 then[115,111,109,101,32]++nm.l++[32]++ts.getD 0 []
 else[40]++ts.getD 0 []++(if k=5 then[32,38,32]else if k=6 then[32,124,32]else[32,62,32])++ts.getD 1 []++[41]
mutual
def txt:aH→List UInt8
 | .mk k nm ws s=>txN k nm ws (v8 s)
def v8:List aH→List (List UInt8)
 |[]=>[]
 |f::fs=>txt f::v8 fs
end
theorem FG {f:aH}(h:f.kind=1):txt f=[116,114,117,101]:=by obtain⟨k,nm,ws,s⟩:=f;rw[dS]at h;subst h;rfl
theorem FH {f:aH}(h:f.kind=2):txt f=f.name.l++[40]++jn [44] f.words++[41]:=by obtain⟨k,nm,ws,s⟩:=f;rw[dS]at h;subst h;rfl
theorem FI {f:aH}(h:f.kind=3):txt f=f.name.l++[40]++jn [32,61,32] f.words++[41]:=by obtain⟨k,nm,ws,s⟩:=f;rw[dS]at h;subst h;rfl
theorem AH {f a:aH}(h:f.kind=4)(hs:f.subs=[a]):txt f=45::txt a:=by obtain⟨k,nm,ws,s⟩:=f;rw[dS]at h;subst h;rw[iS]at hs;subst hs;rfl
theorem AK {f a:aH}(h:f.kind=8)(hs:f.subs=[a]):txt f=[97,108,108,32]++f.name.l++[32]++txt a:=by obtain⟨k,nm,ws,s⟩:=f;rw[dS]at h;subst h;rw[iS]at hs;subst hs;rfl
theorem AL {f a:aH}(h:f.kind=9)(hs:f.subs=[a]):txt f=[115,111,109,101,32]++f.name.l++[32]++txt a:=by obtain⟨k,nm,ws,s⟩:=f;rw[dS]at h;subst h;rw[iS]at hs;subst hs;rfl
def sgn (k:Int):List UInt8:=if k=5 then[32,38,32]else if k=6 then[32,124,32]else[32,62,32]
theorem AJ {f a b:aH}(h:f.kind=5∨f.kind=6∨f.kind=7)(hs:f.subs=[a,b]):txt f=[40]++txt a++sgn f.kind++txt b++[41]:=by obtain⟨k,nm,ws,s⟩:=f;rw[dS]at h;rw[iS]at hs;subst hs;rw[txt,v8,v8,v8];unfold txN;rw[az ae,az ae,az ae,az ae,az ae,az ae];rfl
def txS (f:aH):Str:=⟨txt f⟩
structure txP (f:aH):Prop where
 v:vok f
 ft:f.fit=true
 l:(txt f).length≤1000000000
theorem txP.sub {f g:aH}(h:txP f)(hg:g∈f.subs)(hl:(txt g).length≤(txt f).length):txP g:=by have hv:=h.v;obtain⟨k,nm,ws,s⟩:=f;rw[vok]at hv;have hf:=h.ft;rw[aH.fit]at hf;simp only[aS]at hf;exact⟨(tC s).1 hv.2.2.2.2.2.2 g hg,aH.fits_mem hf.2 hg,bz hl h.l⟩
theorem Ap {f:aH}(h:txP f)(hk:f.kind=4∨f.kind=8∨f.kind=9):∃a,f.subs=[a]∧txP a∧a.size<f.size:=by
 have h1:=(fU.1 h.v).2.2.2.2.1 hk
 match hs:f.subs,h1 with
 |[a],_=>refine⟨a,rfl,h.sub ap ?_,by rw[qz hs];omega⟩;grind[AH,AK,AL]
theorem SU {f:aH}(h:txP f)(hk:f.kind=5∨f.kind=6∨f.kind=7):∃a b,f.subs=[a,b]∧txP a∧txP b∧a.size<f.size∧b.size<f.size∧(txt a).length+(txt b).length+5≤1000000000:=by
 have h1:=(fU.1 h.v).2.2.2.2.2.1 hk
 match hs:f.subs,h1 with
 |[a,b],_=>
  have ht:=AJ hk hs;have hg:(sgn f.kind).length=3:=by unfold sgn;split<;>(try split)<;>rfl
  have hl:(txt f).length=(txt a).length+(txt b).length+5:=by rw[ht];simp[hg];omega
  have:=h.l;refine⟨a,b,rfl,h.sub ap ae,h.sub ap ae,?_,?_,ae⟩
  all_goals grind[sB]
def fc (s:Nat):Nat→Nat→List Int
 |0,_=>[]
 |k+1,i=>fc s k (i / s)++[((i % s:Nat):Int)]
theorem mR (s:Nat):∀k i,(fc s k i).length=k
 |0,_=>rfl
 |k+1,i=>by grind[fc,mR s k]
def lg (vars:List Str)(vals:List Int):List dT:=List.zipWith dT.mk vars vals
def fu (m:dd)(f:aH)(vars:List Str)(i:Nat):Bool:=fB m f (lg vars (fc m.size.toNat vars.length i))
def fJ (m:dd)(f:aH)(vars:List Str):List Bool:=(List.range (m.size.toNat^vars.length)).map (fu m f vars)
theorem rK (m:dd)(f:aH)(vars:List Str):(fJ m f vars).length=m.size.toNat^vars.length:=by unfold fJ;simp
theorem rJ {m:dd}{f:aH}{vars:List Str}{i:Nat}(h:i<m.size.toNat^vars.length):(fJ m f vars).getD i false=fu m f vars i:=by simp_all[fJ]
theorem Km {s:Nat}{vars:List Str}{nm:Str}{a d:Nat}(hd:d<s):lg (vars++[nm]) (fc s (vars++[nm]).length (a*s+d))=lg vars (fc s vars.length a)++[⟨nm,d⟩]:=by
 have hs:0<s:=ae
 have e1:(a*s+d) / s=a:=by rw[df,jv hs,gp hd,bJ]
 have e2:(a*s+d) % s=d:=by rw[df,jx,dA hd]
 simp_all[fc,lg,List.zipWith_append,mR]
theorem Wy {m:dd}{p:Int→Bool}:(mV m).all p=(List.range m.size.toNat).all fun d=>p (d:Int):=by grind[mV]
theorem Wz {m:dd}{p:Int→Bool}:(mV m).any p=(List.range m.size.toNat).any fun d=>p (d:Int):=by grind[mV]
theorem Ro (m:dd)(nm:Str)(ws:List Str)(s:List aH)(vars:List Str)(i:Nat):fu m (.mk 1 nm ws s) vars i=true:=by rfl
theorem RL {m:dd}{nm:Str}{ws:List Str}{g:aH}{vars:List Str}{i:Nat}:fu m (.mk 8 nm ws [g]) vars i=(List.range m.size.toNat).all fun d=>fu m g (vars++[nm]) (i*m.size.toNat+d):=by unfold fu;rw[fB];simp only[show¬(8:Int)=1 by decide,show¬(8:Int)=2 by decide,show¬(8:Int)=3 by decide,show¬(8:Int)=4 by decide,show¬(8:Int)=5 by decide,show¬(8:Int)=6 by decide,show¬(8:Int)=7 by decide,cd,cJ];grind[Wy,lv,Km]
where
 all_congr' {p q:Nat→Bool} {l:List Nat} (h:∀d∈l,p d=q d):l.all p=l.all q:=ap
theorem Rl {m:dd}{nm:Str}{ws:List Str}{g:aH}{vars:List Str}{i:Nat}:fu m (.mk 9 nm ws [g]) vars i=(List.range m.size.toNat).any fun d=>fu m g (vars++[nm]) (i*m.size.toNat+d):=by unfold fu;rw[fB];simp only[show¬(9:Int)=1 by decide,show¬(9:Int)=2 by decide,show¬(9:Int)=3 by decide,show¬(9:Int)=4 by decide,show¬(9:Int)=5 by decide,show¬(9:Int)=6 by decide,show¬(9:Int)=7 by decide,show¬(9:Int)=8 by decide,cd,cJ];grind[Wz,lv,Km]
where
 any_congr' {p q:Nat→Bool} {l:List Nat} (h:∀d∈l,p d=q d):l.any p=l.any q:=ap
theorem Rn {m:dd}{nm:Str}{ws:List Str}{g:aH}{vars:List Str}{i:Nat}:fu m (.mk 4 nm ws [g]) vars i= !fu m g vars i:=by rfl
theorem Rk {m:dd}{nm:Str}{ws:List Str}{g h:aH}{vars:List Str}{i:Nat}:fu m (.mk 5 nm ws [g,h]) vars i=(fu m g vars i&&fu m h vars i):=by rfl
theorem S2 {m:dd}{nm:Str}{ws:List Str}{g h:aH}{vars:List Str}{i:Nat}:fu m (.mk 6 nm ws [g,h]) vars i=(fu m g vars i||fu m h vars i):=by rfl
theorem Rm {m:dd}{nm:Str}{ws:List Str}{g h:aH}{vars:List Str}{i:Nat}:fu m (.mk 7 nm ws [g,h]) vars i=(!fu m g vars i||fu m h vars i):=by rfl
def eV (V:Nat→Bool)(n i:Nat):List Bool:=(List.range n).map fun j=>decide (j<i)&&V j
theorem pU (V:Nat→Bool)(n i:Nat):(eV V n i).length=n:=by unfold eV;simp
theorem rn (V:Nat→Bool)(n:Nat):eV V n 0=List.replicate n false:=by simp_all[eV,List.eq_replicate_iff]
theorem rE (V:Nat→Bool)(n:Nat):eV V n n=(List.range n).map V:=by simp_all[eV]
theorem yM {V:Nat→Bool}{n i j:Nat}(h:j<(eV V n i).length):(eV V n i)[j]=(decide (j<i)&&V j):=by simp[eV]
theorem rF {V:Nat→Bool}{n i:Nat}(_h:i<n):(eV V n i).set i (V i)=eV V n (i+1):=by
 refine cC (by simp_all[pU]) fun j h1 h2=>?_;rw[nH];by_cases e:i=j
 ·simp_all[yM]
 ·rw[az e,yM,yM];grind
def iw (s i:Nat):Nat→Nat
 |0=>i
 |j+1=>iw s i j / s
def qj (s i:Nat):Nat→List Int
 |0=>[]
 |j+1=>((iw s i j % s:Nat):Int)::qj s i j
theorem MF (s i:Nat):∀j,(qj s i j).length=j
 |0=>rfl
 |j+1=>by grind[qj,MF s i j]
theorem L6 (s i:Nat):∀(j k:Nat),fc s (k+j) i=fc s k (iw s i j)++qj s i j
 |0,k=>by rw[qj,bP];rfl
 |j+1,k=>by grind[fc,iw,qj,L6 s i j (k+1)]
theorem R' (s i n:Nat):qj s i n=fc s n i:=by have:=L6 s i n 0;simp_all[fc]
def ja (s i n j:Nat):List Int:=List.replicate (n-j) 0++qj s i j
theorem xf {s i n j:Nat}(h:j≤n):(ja s i n j).length=n:=by simp_all[ja,MF]
theorem wU (s i n:Nat):ja s i n 0=List.replicate n 0:=by simp_all[ja,qj]
theorem vc (s i n:Nat):ja s i n n=fc s n i:=by simp_all[ja,R']
theorem Rr {k:Nat}{v:Int}{l:List Int}:(List.replicate (k+1) (0:Int)++l).set k v=List.replicate k 0++v::l:=by simp_all[dF]
theorem xg {s i n j:Nat}(h:j<n):(ja s i n j).set (n-1-j) ((iw s i j % s:Nat):Int)=ja s i n (j+1):=by unfold ja;rw[show n-j=(n-1-j)+1 by omega,Rr,qj,show n-(j+1)=n-1-j by omega]
theorem sA {s:Nat}(hs:0<s):∀(n i:Nat),∀v∈fc s n i,0≤v∧v<(s:Int)
 |0,_,v,h=>by simp[fc]at h
 |n+1,i,v,h=>by
  rw[fc,aO]at h;rcases h with h|h
  ·exact sA hs n _ v h
  ·have:v=((i % s:Nat):Int):=by simpa using h
   have:=ez i hs;omega
theorem Cr (w:Str):∀a:List dT,lX a w=(a.reverse.find? fun c=>decide (c.name=w)).map (·.value)
 |[]=>rfl
 |c::l=>by grind[lX,Cr w l]
def jq (l:List dT)(w:Str):Int:=((l.find? fun c=>decide (c.name=w)).map (·.value)).getD (-1)
theorem XH (w:Str):jq [] w= -1:=rfl
theorem BC {l:List dT}{c:dT}{w:Str}(hv:∀x∈l,0≤x.value):jq (l++[c]) w=if jq l w<0∧c.name=w then c.value else jq l w:=by
 unfold jq;rw[List.find?_append];cases hf:l.find? fun c=>decide (c.name=w)with
 |some v=>grind
 |none=>grind
def nX (v:Int)(l:List dT)(w:Str):Int:=if 0≤v then v else jq l w
theorem JP {v:Int}{l:List dT}{c:dT}{w:Str}(hv:∀x∈l,0≤x.value):nX v (l++[c]) w=if nX v l w<0∧c.name=w then c.value else nX v l w:=by grind[nX,BC]
theorem BD {l:List dT}{w:Str}{c:dT}(h:(l.find? fun c=>decide (c.name=w))=some c):jq l w=c.value:=by unfold jq;grind
theorem IF {l:List dT}{w:Str}(h:(l.find? fun c=>decide (c.name=w))=none):jq l w= -1:=by unfold jq;grind
theorem Eb {m:dd}{env:List dT}{w:Str}(hv:∀x∈env,0≤x.value)(h:w∈env.map (·.name)∨(pE m w).isSome=true):nX (jq env.reverse w) m.consts w=iE m env w:=by
 unfold iE;rw[Cr];cases hf:env.reverse.find? fun c=>decide (c.name=w)with
 |some c=>grind[BD,nX]
 |none=>grind[IF,nX,pE,sI,BD]
theorem JM (vars:List Str){l:List Int}(h:l.length=vars.length):(lg vars l).length=vars.length:=by simp_all[lg]
theorem L9 {vars:List Str}{l:List Int}{j:Nat}(h:l.length=vars.length)(hj:j<vars.length)(h1:j<(lg vars l).reverse.length):(lg vars l).reverse[j]=⟨vars[vars.length-1-j],l[vars.length-1-j]⟩:=by simp_all[lg]
theorem yy {vars:List Str}{l:List Int}(h:l.length=vars.length):(lg vars l).map (·.name)=vars:=by grind[lg,List.ext_getElem,List.length_zipWith]
theorem yW {vars:List Str}{l:List Int}{x:dT}(hx:x∈lg vars l):x.value∈l:=by grind[lg,List.getElem_of_mem]
theorem JW {l:List dT}{w:Str}(hv:∀x∈l,0≤x.value):0≤jq l w∨jq l w= -1:=by
 cases hf:l.find? fun c=>decide (c.name=w)with
 |some c=>grind[BD]
 |none=>exact .inr (IF hf)
theorem IG {l:List dT}{w:Str}{j:Nat}(_hv:∀x∈l,0≤x.value)(h:0≤jq (l.take j) w):jq l w=jq (l.take j) w:=by
 have e:=cQ j l;unfold jq at h ⊢
 conv=>lhs;rw[←e]
 rw[List.find?_append];cases hf:(l.take j).find? fun c=>decide (c.name=w)with
 |some c=>rfl
 |none=>grind
theorem JQ {v:Int}{w:Str}(h:0≤v∨v= -1):nX v [] w=v:=by grind[nX,XH]
theorem S0 {m:dd}{nm:Str}{ws:List Str}{s:List aH}{vars:List Str}{i:Nat}:fu m (.mk 3 nm ws s) vars i=decide (iE m (lg vars (fc m.size.toNat vars.length i)) (ws.getD 0 ⟨[]⟩)=iE m (lg vars (fc m.size.toNat vars.length i)) (ws.getD 1 ⟨[]⟩)):=by rfl
theorem Rp {m:dd}{nm:Str}{ws:List Str}{s:List aH}{vars:List Str}{i:Nat}:fu m (.mk 2 nm ws s) vars i=decide (ws.map (iE m (lg vars (fc m.size.toNat vars.length i)))∈sR m nm ws.length):=by rfl
theorem OT {P:Int→Prop}{m:dd}{env:List dT}{w:Str}(he:∀x∈env,P x.value)(hc:∀c∈m.consts,P c.value)(h:w∈env.map (·.name)∨(pE m w).isSome=true):P (iE m env w):=by
 unfold iE;rw[Cr];cases hf:env.reverse.find? fun c=>decide (c.name=w)with
 |some c=>grind
 |none=>grind[pE,sI]
def oy (nm:Str)(n:Int)(ts:List Int)(q:gV):Bool:=decide (q.name=nm)&&(decide (q.arity=n)&&q.tuples.any fun t=>decide (t=ts))
theorem RE {m:dd}(hm:re m){q r:gV}(hq:q∈m.rels)(hr:r∈m.rels)(h1:q.name=r.name)(h2:q.arity=r.arity):q=r:=by
 obtain⟨i,hi,rfl⟩:=bI hq;obtain⟨j,hj,rfl⟩:=bI hr;rcases mO i j with h|h|h
 ·have:=hm.r i j hi hj h;rcases this with g|g
  all_goals grind
 ·grind
 ·have:=hm.r j i hj hi h;rcases this with g|g
  all_goals grind
theorem Qe {m:dd}(hm:re m){nm:Str}{n:Int}{ts:List Int}:(m.rels.any (oy nm n ts))=decide (ts∈sR m nm n):=by
 rw[gR,jb,bi];unfold sR;constructor
 ·rintro⟨q,hq,h⟩;unfold oy at h;rw[aS,aS,bi,bi,jb]at h;obtain⟨h1,h2,t,ht,h3⟩:=h;have h3:=bO h3;subst h3;cases hf:qR m nm n with
  |none=>have:=List.find?_eq_none.1 hf q hq;grind
  |some r=>have hr:=dx hf;have hp:=List.find?_some (p:=fun r:gV=>decide (r.name=nm∧r.arity=n)) hf;have hp:=bO hp;grind[RE]
 ·intro h;cases hf:qR m nm n with
  |none=>grind
  |some r=>rw[hf]at h;have hp:=List.find?_some (p:=fun r:gV=>decide (r.name=nm∧r.arity=n)) hf;have hp:=bO hp;refine⟨r,dx hf,?_⟩;simp_all[oy]
theorem Md {s:Int}(hs:0<s):∀(t t':List Int) (a b:Int),t.length=t'.length→(∀v∈t,0≤v∧v<s)→(∀v∈t',0≤v∧v<s)→t.foldl (fun n v=>n*s+v) a=t'.foldl (fun n v=>n*s+v) b→a=b∧t=t'
 |[],[],a,b,_,_,_,h=>⟨h,rfl⟩
 |[],_::_,_,_,hl,_,_,_=>ap
 |_::_,[],_,_,hl,_,_,_=>ap
 |v::t,v'::t',a,b,hl,h1,h2,h=>by
  rw[bQ,bQ]at h;obtain⟨g1,g2⟩:=Md hs t t' _ _ ap ap ap h;have r1:=h1 v ak;have r2:=h2 v' ak;have e1:(a*s+v) / s=a:=by rw[Int.add_comm,Int.add_mul_ediv_right _ _ ae,Int.ediv_eq_zero_of_lt r1.1 r1.2,Int.zero_add]
  have e2:(b*s+v') / s=b:=by rw[Int.add_comm,Int.add_mul_ediv_right _ _ ae,Int.ediv_eq_zero_of_lt r2.1 r2.2,Int.zero_add]
  grind
theorem WY {V:Nat→Bool}{n i:Nat}(_h:i<n):(eV V n i).set i false=eV V n i:=by
 refine(cC ak fun j h1 h2=>?_);rw[nH];split
 all_goals simp_all[yM]
def oG (l:List Str):Prop:=l.Pairwise fun a b=>a.l<b.l
theorem JK {a b c:List UInt8}(h1:a<b)(h2:b<c):a<c:=ap
theorem wD {a:List UInt8}:¬a<a:=List.lt_irrefl a
theorem QC {a b:List UInt8}(h1:¬a<b)(h2:a≠b):b<a:=ap
theorem EV {a b:Str}(h:a≠b):a.l≠b.l:=fun e=>h (by cases a;simp_all)
theorem Oc:∀{a b:List Str},oG a→oG b→(∀x,x∈a↔x∈b)→a=b
 |[],[],_,_,_=>rfl
 |[],y::b,_,_,h=>absurd ((h y).2 ak) ak
 |x::a,[],_,_,h=>absurd ((h x).1 ak) ak
 |x::a,y::b,ha,hb,h=>by
  have ha':=dz.1 ha;have hb':=dz.1 hb;have e:x=y:=by
   refine ee fun hne=>?_;have h1:x∈b:=by
    rcases aV.1 ((h x).1 ak)with h1|h1
    ·exact absurd h1 hne
    ·exact h1
   have h2:y∈a:=by
    rcases aV.1 ((h y).2 ak)with h2|h2
    ·exact absurd h2.symm hne
    ·exact h2
   exact wD (JK (ha'.1 y h2) (hb'.1 x h1))
  subst e;rw[Oc ha'.2 hb'.2 fun z=>?_];have hz:=h z;simp only[aV]at hz;constructor
  ·intro hza;rcases hz.1 (.inr hza)with e|h1
   ·rw[e]at hza;exact absurd (ha'.1 x hza) wD
   ·exact h1
  ·intro hzb;rcases hz.2 (.inr hzb)with e|h1
   ·rw[e]at hzb;exact absurd (hb'.1 x hzb) wD
   ·exact h1
theorem Hw {p:Str→Bool}:∀{l:List Str} {x:Str},x∈l.take (l.takeWhile p).length→p x=true
 |[],x,h=>by simp at h
 |y::l,x,h=>by
  rw[List.takeWhile_cons]at h;by_cases hp:p y=true
  ·rw[aF hp,aN,bm]at h;rcases aV.1 h with rfl|h
   ·exact hp
   ·exact Hw h
  ·rw[az hp]at h;simp at h
theorem Hu {p:Str→Bool}:∀{l:List Str},l.drop (l.takeWhile p).length=[]∨∃y t,l.drop (l.takeWhile p).length=y::t∧p y=false
 |[]=> .inl ak
 |y::l=>by
  rw[List.takeWhile_cons];by_cases hp:p y=true
  ·rw[aF hp,aN,bH];exact Hu
  grind
theorem RW {l:List Str}(h:oG l)(s:Str):oG (fM l s):=by
 unfold fM;split
 ·exact h
 ·rename_i hn;obtain⟨p,hp⟩:∃p:Str→Bool,p=fun x=>decide (x.l<s.l):=⟨_,rfl⟩;rw[←hp];have hT:∀x∈l.take (l.takeWhile p).length,x.l<s.l:=fun x hx=>by have:=Hw hx;grind
  have hsp:oG (l.take (l.takeWhile p).length++l.drop (l.takeWhile p).length):=by rw[cQ];exact h
  have hsp':=List.pairwise_append.1 hsp;have hD:∀x∈l.drop (l.takeWhile p).length,s.l<x.l:=by grind[Hu,EV,List.pairwise_cons]
  simp_all[oG,List.pairwise_append]
theorem ME:∀(ws l:List Str),oG l→oG (ws.foldl fM l)
 |[],_,h=>h
 |w::ws,l,h=>ME ws (fM l w) (RW h w)
theorem ZB (l:List (List UInt8)):(oC l).Pairwise (· ≤·):=by
 unfold oC;refine(List.pairwise_mergeSort (le:=fun x y=>decide (x≤y)) (fun a b c h1 h2=>?_) (fun a b=>?_) l).imp ap
 all_goals grind
theorem YI {l:List (List UInt8)}(h:l.Pairwise (· ≤·)):(lD l).Pairwise (· <·):=by
 unfold lD Lib.compact Lib.compactUpTo;refine iK.2 ?_;have hr:(List.range l.length).Pairwise (· <·):=List.pairwise_lt_range;refine List.Pairwise.imp_of_mem ?_ (hr.filter (Lib.keeps l.toArray));intro i j hi hj hij;have hi':=dW.1 (cD.1 hi).1;have hj':=dW.1 (cD.1 hj).1;have hk:=(cD.1 hj).2;have hget:∀j (h:j<l.length),(l.toArray)[j]! =l[j]:=fun j h=>by simp[h]
 unfold Lib.keeps at hk;have hk:=bO hk;rw[hget i hi',hget j hj'];rw[hget j hj',hget (j-1) ae]at hk;have hne:l[j]≠l[j-1]:=by
  rcases hk with h0|h0
  ·omega
  ·exact h0
 have hp:=dy.1 h;have h1:l[j-1]≤l[j]:=hp _ _ ae hj' ae;have h2:l[j-1]<l[j]:=by
  rcases List.le_iff_lt_or_eq.1 h1 with h3|h3
  ·exact h3
  ·exact absurd h3.symm hne
 rcases aA i (j-1)with h3|h3
 ·exact List.lt_of_le_of_lt (hp _ _ hi' ae h3) h2
 ·obtain rfl:i=j-1:=ae
  exact h2
theorem C0 (l:List (List UInt8)):oG ((lD (oC l)).map Str.mk):=iK.2 (YI (ZB l))
theorem ZD {l:List Str}(h:oG l):l.Nodup:=h.imp ap
def okb (c:UInt8):Bool:=decide (okc c)
def nok (r:List UInt8):Prop:=∀c t,r=c::t→okb c=false
theorem vo:∀{a b r s:List UInt8},(∀c∈a,okb c=true)→(∀c∈b,okb c=true)→nok r→nok s→a++r=b++s→a=b∧r=s
 |[],[],r,s,_,_,_,_,h=>⟨rfl,h⟩
 |[],y::b,r,s,_,hb,hr,_,h=>by have h1:=hr y (b++s) h;grind
 |x::a,[],r,s,ha,_,_,hs,h=>by have h1:=hs x (a++r) h.symm;grind
 |x::a,y::b,r,s,ha,hb,hr,hs,h=>by obtain⟨rfl,h2⟩:=fx (show x::(a++r)=y::(b++s)from h);grind[vo (fun c hc=>ha c qWh) (fun c hc=>hb c qWh) hr hs h2]
theorem vX:∀{a r:List UInt8},(∀c∈a,okb c=true)→nok r→(a++r).takeWhile okb=a∧(a++r).dropWhile okb=r
 |[],[],_,_=>⟨rfl,rfl⟩
 |[],y::r,_,hr=>by have:=hr y r rfl;simp[this]
 |x::a,r,ha,hr=>by have h1:=ha x ak;obtain⟨h2,h3⟩:=vX (a:=a) ap hr;simp_all
theorem mr {c:UInt8}{t:List UInt8}(h:okb c=false):nok (c::t):=fun d u e=>ap
theorem oM {w:Str}(h:dI w=true):∀c∈w.l,okb c=true:=by unfold dI at h;intro c hc;obtain⟨j,hj,rfl⟩:=bI hc;have:=(bO h).2.2.2 j hj;rw[av,ay hj]at this;exact ba this
theorem zj {w:Str}(h:dI w=true):∃c t,w.l=c::t∧mZ c:=by
 unfold dI at h;obtain⟨h1,_,h2,_⟩:=bO h
 match hl:w.l,h1,h2 with
 |c::t,_,h2=>grind
theorem xz {c:UInt8}(h:mZ c):c≠40∧c≠45∧c≠41∧c≠61:=by refine⟨?_,?_,?_,?_⟩<;>(rintro rfl;revert h;decide)
inductive Vw:aH→Prop
 |t:Vw (.mk 1 ⟨[]⟩ [] [])
 |p (nm:Str) (ws:List Str):dI nm=true→(∀w∈ws,dI w=true)→Vw (.mk 2 nm ws [])
 |e (a b:Str):dI a=true→dI b=true→Vw (.mk 3 ⟨[]⟩ [a,b] [])
 |n (a:aH):Vw a→Vw (.mk 4 ⟨[]⟩ [] [a])
 |j (k:Int) (a b:aH):(k=5∨k=6∨k=7)→Vw a→Vw b→Vw (.mk k ⟨[]⟩ [] [a,b])
 |q (k:Int) (nm:Str) (a:aH):(k=8∨k=9)→dI nm=true→Vw a→Vw (.mk k nm [] [a])
def stp (r:List UInt8):Prop:=r=[]∨∃c t,r=c::t∧(c=32∨c=41)
theorem stp.nok {r:List UInt8}(h:stp r):nok r:=by
 rcases h with rfl|⟨c,t,rfl,rfl|rfl⟩
 ·intro c t e;cases e
 ·exact mr ai
 ·exact mr ai
theorem stp.h40 {r t:List UInt8}(h:stp r):r≠40::t:=by
 rintro rfl;rcases h with h|⟨c,u,h,hc⟩
 all_goals grind
theorem EU {t:List UInt8}:stp (32::t):= .inr ap
theorem ET {t:List UInt8}:stp (41::t):= .inr ap
def kap (L:List UInt8):Int:=
 match L with
 |[]=>0
 |c::t=>if c=45 then 4 else if c=40 then(if(t.dropWhile okb).take 2=[32,61]then 3 else 5)
  else if(L.dropWhile okb).head? =some 40 then 2 else if L.takeWhile okb=[116,114,117,101]then 1 else if L.takeWhile okb=[97,108,108]then 8 else 9
def kaf (k:Int):Int:=if k=5∨k=6∨k=7 then 5 else k
theorem Da {a r:List UInt8}{c:UInt8}{t:List UInt8}(ha:∀c∈a,okb c=true)(hr:nok r)(hc:a=c::t)(h1:c≠45)(h2:c≠40):
  kap (a++r)=if r.head? =some 40 then 2 else if a=[116,114,117,101]then 1 else if a=[97,108,108]then 8 else 9:=by
 grind[vX,kap]
theorem Aq:txt (.mk 1 ⟨[]⟩ [] [])=[116,114,117,101]:=FG rfl
theorem xB {nm ws s}:txt (.mk 2 nm ws s)=nm.l++40::(jn [44] ws++[41]):=by rw[FH rfl,rm,pT];simp
theorem xC {a b:Str}{s}:txt (.mk 3 ⟨[]⟩ [a,b] s)=40::(a.l++(32::61::32::(b.l++[41]))):=by rw[FI rfl,rm,pT];simp[jn]
theorem Du {nm ws a}:txt (.mk 4 nm ws [a])=45::txt a:=AH rfl rfl
def sg2 (k:Int):UInt8:=if k=5 then 38 else if k=6 then 124 else 62
theorem xD {k:Int}{nm ws a b}(h:k=5∨k=6∨k=7):txt (.mk k nm ws [a,b])=40::(txt a++(32::sg2 k::32::(txt b++[41]))):=by rw[AJ (f:= .mk k nm ws [a,b]) h rfl,dS];grind[sgn,sg2]
def qs (k:Int):List UInt8:=if k=8 then[97,108,108]else[115,111,109,101]
theorem xE {k:Int}{nm ws a}(h:k=8∨k=9):txt (.mk k nm ws [a])=qs k++(32::(nm.l++(32::txt a))):=by
 rcases h with rfl|rfl
 ·rw[AK (f:= .mk 8 nm ws [a]) rfl rfl,rm];simp[qs]
 ·rw[AL (f:= .mk 9 nm ws [a]) rfl rfl,rm];simp[qs]
theorem AC (k:Int):(∀c∈qs k,okb c=true)∧(∃c t,qs k=c::t∧c≠45∧c≠40):=by
 unfold qs;split
 ·exact⟨ai,97,[108,108],rfl,ai,ai⟩
 ·exact⟨ai,115,[111,109,101],rfl,ai,ai⟩
theorem Vw.noeq {f:aH}(h:Vw f):∀(c:UInt8) (t:List UInt8),c≠61→((txt f++32::c::t).dropWhile okb).take 2≠[32,61]:=by
 have n40:okb 40=false:=ai
 have o45:okb 45=true:=ai
 induction h with
 |t=>intro c t hc;rw[Aq,(vX ai (mr ai)).2];grind
 |p nm ws h1 h2=>grind[xB,vX,oM,mr]
 |e a b h1 h2=>simp_all[xC]
 |n a _ ih=>simp_all[Du]
 |j k a b hk _ _ _ _=>simp_all[xD]
 |q k nm a hk h1 _ _=>intro c t hc;obtain⟨d,u,hd,hl⟩:=zj h1;rw[xE hk,bu,a6,(vX (AC k).1 (mr ai)).2,hd];simp_all[xz]
theorem S3 (k:Int):sg2 k≠61:=by grind[sg2]
theorem Vw.kap {f:aH}(h:Vw f){r:List UInt8}(hr:stp r):kap (txt f++r)=kaf f.kind:=by
 cases h with
 |t=>
  rw[Aq,Da ai hr.nok rfl ai ai];have:r.head? ≠some 40:=by rcases hr with rfl|⟨c,t,rfl,rfl|rfl⟩<;>simp
  rw[az this];rfl
 |p nm ws h1 h2=>obtain⟨d,u,hd,hl⟩:=zj h1;rw[xB,bu,a6,Da (oM h1) (mr ai) hd (xz hl).2.1 (xz hl).1];rfl
 |e a b h1 h2=>rw[xC,a6];unfold Go.Abs.kap;simp only[az (show¬((40:UInt8)=45) by decide),cJ];rw[bu,a6,a6,(vX (oM h1) (mr ai)).2];rfl
 |n a _=>rfl
 |j k a b hk ha _=>rw[xD hk,a6,bu,a6,a6];unfold Go.Abs.kap;simp only[az (show¬((40:UInt8)=45) by decide),cJ];rw[az (ha.noeq _ _ (S3 k))];simp_all[kaf,dS]
 |q k nm a hk h1 _=>obtain⟨c,t,hq,q1,q2⟩:=(AC k).2;rw[xE hk,bu,a6,Da (AC k).1 (mr ai) hq q1 q2];grind[kaf,dS,qs]
theorem Mc:∀{ws vs:List Str} {r s:List UInt8},(∀w∈ws,dI w=true)→(∀w∈vs,dI w=true)→(ws.flatMap fun v=>[44]++v.l)++41::r=(vs.flatMap fun v=>[44]++v.l)++41::s→ws=vs∧r=s
 |[],[],r,s,_,_,h=>ap
 |[],v::vs,r,s,_,_,h=>ap
 |w::ws,[],r,s,_,_,h=>ap
 |w::ws,v::vs,r,s,hw,hv,h=>by
  rw[cU,cU]at h;simp only[a6,aK,bu,db,io]at h;have nk:∀(l:List Str) (t:List UInt8),nok ((l.flatMap fun v=>44::v.l)++41::t):=fun l t=>by
   cases l with
   |nil=>exact mr ai
   |cons a l=>rw[cU,a6,a6];exact mr ai
  obtain⟨h1,h2⟩:=vo (oM (hw w ak)) (oM (hv v ak)) (nk _ _) (nk _ _) h;obtain⟨h3,h4⟩:=Mc (ws:=ws) (vs:=vs) (r:=r) (s:=s) ap ap h2;refine⟨?_,h4⟩;rw[h3,show w=v from by cases w;simp_all]
theorem SN {ws vs:List Str}{r s:List UInt8}(hw:∀w∈ws,dI w=true)(hv:∀w∈vs,dI w=true)(h:jn [44] ws++41::r=jn [44] vs++41::s):ws=vs∧r=s:=by
 cases ws with
 |nil=>
  cases vs with
  |nil=>simp_all
  |cons v vs=>obtain⟨d,u,hd,hl⟩:=zj (hv v ak);grind[jn,xz]
 |cons w ws=>
  cases vs with
  |nil=>obtain⟨d,u,hd,hl⟩:=zj (hw w ak);grind[jn,xz]
  |cons v vs=>refine Mc hw hv ?_;simp_all[jn]
theorem qF {a b:Str}(h:a.l=b.l):a=b:=by cases a;simp_all
theorem Vw.inj {f:aH}(hf:Vw f):∀{g:aH},Vw g→∀{r s:List UInt8},stp r→stp s→txt f++r=txt g++s→f=g∧r=s:=by
 induction hf with
 |t=>
  intro g hg r s hr hs h;have hk:=(Vw.t.kap hr).symm.trans ((a8 Go.Abs.kap h).trans (hg.kap hs));cases hg with
  |t=>simp_all
  |p=>simp[kaf,dS]at hk
  |e=>simp[kaf,dS]at hk
  |n=>simp[kaf,dS]at hk
  |j k a b hk2=>simp_all[dS,kaf]
  |q k nm a hk2=>grind[kaf,dS]
 |p nm ws h1 h2=>
  intro g hg r s hr hs h;have hk:=((Vw.p nm ws h1 h2).kap hr).symm.trans ((a8 Go.Abs.kap h).trans (hg.kap hs));cases hg with
  |t=>simp[kaf,dS]at hk
  |p nm' ws' h1' h2'=>rw[xB,xB]at h;simp only[bu,a6,aK]at h;obtain⟨e1,e2⟩:=vo (oM h1) (oM h1') (mr ai) (mr ai) h;grind[SN,qF]
  |e=>simp[kaf,dS]at hk
  |n=>simp[kaf,dS]at hk
  |j k a b hk2=>simp_all[dS,kaf]
  |q k nm a hk2=>grind[kaf,dS]
 |e a b h1 h2=>
  intro g hg r s hr hs h;have hk:=((Vw.e a b h1 h2).kap hr).symm.trans ((a8 Go.Abs.kap h).trans (hg.kap hs));cases hg with
  |t=>simp[kaf,dS]at hk
  |p=>simp[kaf,dS]at hk
  |e a' b' h1' h2'=>rw[xC,xC]at h;simp only[bu,a6,aK,db,io]at h;obtain⟨e1,e2⟩:=vo (oM h1) (oM h1') (mr ai) (mr ai) h;simp only[db,io]at e2;obtain⟨e3,e4⟩:=vo (oM h2) (oM h2') (mr ai) (mr ai) e2;grind[qF]
  |n=>simp[kaf,dS]at hk
  |j k a b hk2=>simp_all[dS,kaf]
  |q k nm a hk2=>grind[kaf,dS]
 |n a ha ih=>
  intro g hg r s hr hs h;have hk:=((Vw.n a ha).kap hr).symm.trans ((a8 Go.Abs.kap h).trans (hg.kap hs));cases hg with
  |t=>simp[kaf,dS]at hk
  |p=>simp[kaf,dS]at hk
  |e=>simp[kaf,dS]at hk
  |n a' ha'=>grind[Du]
  |j k a b hk2=>simp_all[dS,kaf]
  |q k nm a hk2=>grind[kaf,dS]
 |j k a b hk1 ha hb iha ihb=>
  intro g hg r s hr hs h;have hk:=((Vw.j k a b hk1 ha hb).kap hr).symm.trans ((a8 Go.Abs.kap h).trans (hg.kap hs));have h5:kaf k=5:=by unfold kaf;rw[aF hk1]
  rw[dS,h5]at hk;cases hg with
  |t=>simp[kaf,dS]at hk
  |p=>simp[kaf,dS]at hk
  |e=>simp[kaf,dS]at hk
  |n=>simp[kaf,dS]at hk
  |j k' a' b' hk2 ha' hb'=>
   rw[xD hk1,xD hk2]at h;simp only[bu,a6,aK,db,io]at h;obtain⟨e1,e2⟩:=iha ha' EU EU h;simp only[db,io]at e2;obtain⟨e3,e4⟩:=e2;obtain⟨e5,e6⟩:=ihb hb' ET ET e4;have ek:k=k':=by rcases hk1 with rfl|rfl|rfl<;>rcases hk2 with rfl|rfl|rfl<;>first|rfl|(exfalso;revert e3;decide)
   grind
  |q k nm a hk2=>grind[kaf,dS]
 |q k nm a hk1 h1 ha ih=>
  intro g hg r s hr hs h;have hk:=((Vw.q k nm a hk1 h1 ha).kap hr).symm.trans ((a8 Go.Abs.kap h).trans (hg.kap hs));have h8:kaf k=k:=by unfold kaf;rw[az ae]
  rw[dS,h8]at hk;cases hg with
  |t=>simp_all[kaf,dS]
  |p=>simp_all[kaf,dS]
  |e=>simp_all[kaf,dS]
  |n=>simp_all[kaf,dS]
  |j k' a b hk2=>simp_all[kaf,dS]
  |q k' nm' a' hk2 h1' ha'=>
   have h8':kaf k'=k':=by unfold kaf;rw[az ae]
   rw[dS,h8']at hk;subst hk;rw[xE hk1,xE hk1]at h;simp only[bu,a6,aK]at h;have h:=List.append_cancel_left h;simp only[db,io]at h;obtain⟨e1,e2⟩:=vo (oM h1) (oM h1') (mr ai) (mr ai) h;grind[qF]
theorem Vw.txt_eq {f g:aH}(hf:Vw f)(hg:Vw g)(h:txt f=txt g):f=g:=(hf.inj hg (.inl rfl) (.inl rfl) (by rw[h])).1
theorem yI {w:Str}(h:dI w=true):w.l.length≤30:=by simp_all[dI]
theorem QI {a b:List Str}(h:∀j,gA j∈a↔gA j∈b):vg a=vg b:=by grind[vg,IU]
mutual
theorem Nc {used:List Str}:∀(f:aH) (env:List cX) (bd bd':List Str) (n:Nat),(∀w∈bd,lkp env w∈bd')→(∀w∈bd',w∉used)→(∀w∈cst f bd,lkp env w∈used)→
  cst (ren (vg used) f env n).1 bd'=(cst f bd).map (lkp env)
 | .mk k nm ws s,env,bd,bd',n,h1,h2,h3=>by
  rw[cst]at h3;have hw:(ws.map (lkp env)).filter (fun w=>decide (w∉bd'))=(ws.filter fun w=>decide (w∉bd)).map (lkp env):=by
   have:∀l:List Str,(∀w∈l,w∈ws)→(l.map (lkp env)).filter (fun w=>decide (w∉bd'))=(l.filter fun w=>decide (w∉bd)).map (lkp env):=by
    intro l;induction l with
    |nil=>simp
    |cons w l ih=>grind
   exact ap
  rw[ren];by_cases hq:isQ k
  ·rw[aF hq]at h3;rw[aF hq,cst,cst,aF hq,aF hq,aE,hw];have hv:gA (iy used n)∉used:=(mS used n).2.2.1;have hc:∀w∈ef s (bd++[nm]),lkp (env++[⟨nm,(vg used n).1⟩]) w=lkp env w:=fun w hw=>by have hn:=yw s _ w hw;grind[ph]
   have ih:=CH s (env++[⟨nm,(vg used n).1⟩]) (bd++[nm]) (bd'++[(vg used n).1]) (vg used n).2 (by grind[ph]) (fun w hw=>by
    rcases aO.1 hw with h|h
    ·exact h2 w h
    ·rw[a7.1 h];exact hv) ap
   simp_all
  ·rw[az hq]at h3;rw[az hq,cst,cst,az hq,az hq,aE,hw];rw[CH s env bd bd' n h1 h2 ap]
theorem CH {used:List Str}:∀(fs:List aH) (env:List cX) (bd bd':List Str) (n:Nat),(∀w∈bd,lkp env w∈bd')→(∀w∈bd',w∉used)→(∀w∈ef fs bd,lkp env w∈used)→
  ef (dj (vg used) fs env n).1 bd'=(ef fs bd).map (lkp env)
 |[],env,bd,bd',n,_,_,_=>by rfl
 |f::fs,env,bd,bd',n,h1,h2,h3=>by rw[ef]at h3;rw[dj,ef,ef,aE,Nc f env bd bd' n h1 h2 ap,CH fs env bd bd' _ h1 h2 ap]
end
mutual
theorem KM {g:Nat→Str×Nat}:∀(f:aH) (env env':List cX) (n:Nat),(∀w,lkp env' w=w)→ren g (ren g f env n).1 env' n=((ren g f env n).1,(ren g f env n).2)
 | .mk k nm ws s,env,env',n,h=>by
  have hm:∀l:List Str,l.map (lkp env')=l:=fun l=>by rw[show lkp env'=id from funext h,gK]
  rw[ren];by_cases hq:isQ k
  ·rw[aF hq,ren,aF hq];rw[B4 s _ _ _ (by simp_all[ph]),hm]
  ·rw[az hq,ren,az hq];rw[B4 s env env' n h,hm]
theorem B4 {g:Nat→Str×Nat}:∀(fs:List aH) (env env':List cX) (n:Nat),(∀w,lkp env' w=w)→dj g (dj g fs env n).1 env' n=((dj g fs env n).1,(dj g fs env n).2)
 |[],env,env',n,_=>by rfl
 |f::fs,env,env',n,h=>by rw[dj,dj,KM f env env' n h,B4 fs env env' _ h]
end
theorem ZO {b:cX}{u:List Str}:mB [b] u=u.map fun w=>if w=b.fr then b.to else w:=rfl
theorem Rt {b:cX}{w:Str}:lkp [b] w=if w=b.fr then b.to else w:=by have:=ph [] b w;grind[wH]
theorem CX {env:List cX}{u:List Str}(he:env.length≤1):mB env u=u.map (lkp env):=by
 match env,he with
 |[],_=>rw[show lkp []=id from funext wH,gK];rfl
 |[b],_=>rw[ZO];exact bB fun w _=>Rt.symm
theorem WB {f:aH}{env:List cX}(he:env.length≤1):eC (eC f env) []=eC f env:=by
 have hc:cst (eC f env) []=(cst f []).map (lkp env):=by unfold eC;refine Nc f env [] [] 0 ak ak fun w hw=>?_;rw[CX he];exact (by grind[og])
 have hv:vg (mB [] (eR (eC f env)))=vg (mB env (eR f)):=by
  refine QI fun j=>?_;rw[CX he,show mB [] (eR (eC f env))=eR (eC f env)from rfl,og,hc,be,be];constructor
  ·simp_all[og]
  ·simp_all[og]
 grind[eC,KM,wH]
theorem QG (f:aH):eR (eJ f)=eR f:=by simp_all[eR,cst,eJ,ef,isQ]
theorem D1 (f:aH):ngg f=eJ (cnn f):=by unfold ngg cnn eC;grind[QG,eJ,ren,isQ,dj]
structure BF0 (f:aH):Prop where
 b:brF f
 sh:shp false f
 aw:eu (fun w=>dI w=true) f
structure BF (f:aH):Prop where
 o:BF0 f
 cn:cnn f=f
theorem BF0.clean {f:aH}(h:BF0 f):clean f:=JD (fun _ hw=>y7 hw) f h.aw
theorem BF0.sub {f g:aH}(h:BF0 f)(hg:g∈f.subs):BF0 g:=by
 have hs:=h.sh;have ha:=h.aw;refine⟨h.b.sub hg,?_,?_⟩
 ·obtain⟨k,nm,ws,s⟩:=f;rw[shp]at hs;exact(CY s).1 hs.2 g hg
 ·obtain⟨k,nm,ws,s⟩:=f;rw[eu]at ha;exact(yG _ s).1 ha.2.2 g hg
theorem Yq {used:List Str}{B:Nat}{p:Str→Prop}(hv:∀j,j<B→p (gA j)):∀m,(∀(f:aH) (env:List cX) (n:Nat),f.size≤m→n+(used.length+1)*f.size≤B→eu p f→(∀w,p w→p (lkp env w))→eu p (ren (vg used) f env n).1)∧
  ∀(fs:List aH) (env:List cX) (n:Nat),aH.sizes fs≤m→n+(used.length+1)*aH.sizes fs≤B→eD p fs→(∀w,p w→p (lkp env w))→eD p (dj (vg used) fs env n).1:=by
 intro m;induction m with
 |zero=>
  refine⟨fun f env n h=>by have:=f.size_pos;omega,fun fs env n h _ _ _=>?_⟩;cases fs with
  |nil=>rw[dj,eD];trivial
  |cons f fs=>rw[aH.sizes]at h;have:=f.size_pos;omega
 |succ m ih=>
  have h1:∀(f:aH) (env:List cX) (n:Nat),f.size≤m+1→n+(used.length+1)*f.size≤B→eu p f→(∀w,p w→p (lkp env w))→eu p (ren (vg used) f env n).1:=by
   intro f env n hs hn ha he;obtain⟨k,nm,ws,s⟩:=f;rw[aH.size]at hs hn;rw[ej,fO]at hn;rw[eu]at ha;have hw:∀w∈ws.map (lkp env),p w:=ap
   have hg:=mS used n;rw[ren];by_cases hq:isQ k
   ·have hvn:p (gA (iy used n)):=hv _ ae;rw[aF hq,eu];refine⟨hw,fun _=>hvn,ih.2 s _ _ ae ?_ ha.2.2 fun w hw=>?_⟩
    ·show iy used n+1+_≤B;omega
    ·rw[ph];split
     ·exact hvn
     grind
   ·grind[eu]
  refine⟨h1,fun fs=>?_⟩;induction fs with
  |nil=>simp_all[dj]
  |cons f fs ih2=>intro env n hs hn ha he;rw[aH.sizes]at hs hn;rw[ej]at hn;rw[eD]at ha;rw[dj,eD];have:=((rT (vY used)).1 f env n).2;grind
theorem BF0.can {f:aH}{env:List cX}(h:BF0 f)(he:env.length≤1)(hn:∀b∈env,dI b.to=true):BF (eC f env):=by
 refine⟨⟨h.b.cn,LD _ f env 0 h.sh,?_⟩,WB he⟩;unfold eC;have h1:=rM f [] h.b.ft;have h2:=yz f;refine(Yq (B:=10^20) (fun j hj=>WF hj) f.size).1 f env 0 (aI _) ?_ h.aw fun w hw=>?_
 ·rw[CX he,aG];have hs:=h.b.s;have h3:((eR f).length+1)*f.size≤800001*800:=eN ae hs;omega
 grind[D3]
theorem BF0.cn {f:aH}(h:BF0 f):BF (cnn f):=h.can ak ak
theorem BF0.not {f:aH}(h:BF0 f)(hs:f.size+1≤800):BF0 (eJ f):=by
 refine⟨⟨?_,?_,?_⟩,?_,?_⟩
 ·unfold eJ;rw[vok,lI,lI];exact⟨ai,ai,ae,ae,fun _=>rfl,fun e=>ae,h.b.v,trivial⟩
 ·simp[eJ,aH.fit,aH.fits,h.b.ft]
 ·simp_all[eJ,aH.size,aH.sizes]
 ·unfold eJ;rw[shp,ij,ij];refine⟨⟨rfl,rfl,fun e=>?_,fun _=>rfl⟩,h.sh,trivial⟩;exact absurd (bO e) (by rw[dS];omega)
 ·exact YX h.aw
theorem BF0.ng {f:aH}(h:BF0 f)(hs:f.size+1≤800):BF (ngg f):=(h.not hs).can ak ak
theorem BF.not_inv {f:aH}(h:BF (eJ f)):cnn f=f:=by have h1:ngg f=eJ f:=h.cn;grind[D1,eJ]
theorem Ny:∀(n:Nat) (f:aH),f.size≤n→BF0 f→Vw f
 |0,f,h,_=>by have:=f.size_pos;omega
 |n+1,f,h,hb=>by
  have hv:=fU.1 hb.b.v;have hsub:∀g∈f.subs,Vw g:=fun g hg=>Ny n g qQn (hb.sub hg);have hs:=hb.sh;have ha:=hb.aw;obtain⟨k,nm,ws,s⟩:=f;rw[shp]at hs;rw[eu]at ha;obtain⟨⟨s1,s2,s3,s4⟩,_⟩:=hs;simp only[dS,iS,rm,pT]at hv s1 s2 s3 s4 hsub;have hp:iU false (.mk k nm ws s)=lz k:=by unfold iU;rw[dS,az ak]
  rw[hp]at s1;have w0:k≠2→k≠3→ws=[]:=fun h2 h3=>by unfold pA at s2;rw[dS,pT,az h2,az h3]at s2;grind
  have n0:k≠2→k≠8→k≠9→nm=⟨[]⟩:=fun h2 h8 h9=>by grind[named,dS]
  have dv:(k=1∨k=2∨k=3)→s=[]:=fun h=>by simp_all[lz]
  by_cases h1:k=1
  ·subst h1;rw[w0 ai ai,n0 ai ai ai,dv (.inl rfl)];exact .t
  by_cases h2:k=2
  ·subst h2;rw[dv (.inr (.inl rfl))];exact .p nm ws (s3 rfl (by unfold isQ;decide)) ha.1
  by_cases h3:k=3
  ·subst h3;rw[n0 ai ai ai,dv (.inr (.inr rfl))];have hl:=hv.2.2.2.1 rfl
   match ws,hl,ha.1 with
   |[a,b],_,hw=>exact .e a b (hw a ak) (hw b ak)
  have hw:=w0 h2 h3;subst hw;by_cases h4:k=4
  ·subst h4;rw[n0 ai ai ai];have hl:=hv.2.2.2.2.1 (.inl rfl)
   match s,hl,hsub with
   |[a],_,hsub=>exact .n a ap
  by_cases h8:k=8∨k=9
  ·have hl:=hv.2.2.2.2.1 (.inr h8)
   match s,hl,hsub with
   |[a],_,hsub=>exact .q k nm a h8 (ha.2.1 h8) ap
  have h5:k=5∨k=6∨k=7:=ae
  rw[n0 h2 ae ae];have hl:=hv.2.2.2.2.2.1 h5
  match s,hl,hsub with
  |[a,b],_,hsub=>exact .j k a b h5 ap ap
theorem BF0.vw {f:aH}(h:BF0 f):Vw f:=Ny f.size f (aI _) h
theorem txt_eq {f g:aH}(hf:BF0 f)(hg:BF0 g):txt f=txt g↔f=g:=⟨hf.vw.txt_eq hg.vw,fun h=>by rw[h]⟩
theorem SO {ws:List Str}{sep:List UInt8}(h:∀w∈ws,dI w=true)(hs:sep.length≤3):(jn sep ws).length≤33*ws.length:=by
 have key:∀l:List Str,(∀w∈l,dI w=true)→(l.flatMap fun v=>sep++v.l).length≤33*l.length:=by
  intro l;induction l with
  |nil=>simp
  |cons w l ih=>grind[yI]
 cases ws with
 |nil=>simp[jn]
 |cons w ws=>grind[jn]
theorem xo:∀(n:Nat) (f:aH),f.size≤n→BF0 f→(txt f).length≤40000*f.size
 |0,f,h,_=>by have:=f.size_pos;omega
 |n+1,f,h,hb=>by
  have hv:=hb.vw;have hwl:f.words.length≤1000:=by
   have hf:=hb.b.ft;cases f with
   |mk a b c d=>rw[aH.fit]at hf;simp only[aS,bi]at hf;exact hf.1.1
  cases hv with
  |t=>rw[Aq,aH.size,aH.sizes];simp
  |p nm ws h1 h2=>have h3:=SO (sep:=[44]) h2 ak;grind[yI,pT,xB,aH.size]
  |e a b h1 h2=>grind[yI,xC,aH.size,List.length_cons]
  |n a _=>have hz:(aH.mk 4 ⟨[]⟩ [] [a]).size=a.size+1:=qz rfl;grind[Du,xo n a ae (hb.sub (by simp[iS]))]
  |j k a b hk _ _=>have hz:(aH.mk k ⟨[]⟩ [] [a,b]).size=a.size+b.size+1:=sB rfl;grind[xD,xo n a ae (hb.sub (by simp[iS])), xo n b ae (hb.sub (by simp[iS]))]
  |q k nm a hk h1 _=>have hz:(aH.mk k nm [] [a]).size=a.size+1:=qz rfl;grind[yI,qs,xE,xo n a ae (hb.sub (by simp[iS]))]
theorem BF0.tx {f:aH}(h:BF0 f):txP f:=⟨h.b.v,h.b.ft,by have:=xo f.size f (aI _) h;have:=h.b.s;omega⟩
def Tbl.or (S T:Tbl):Tbl:=fun f=>(S f).or (T f)
@[go_sem] theorem zOr {S T:Tbl}{f:FuncId}:Tbl.or S T f=(S f).or (T f):=rfl
@[go_sem] theorem zLz {α:Type}{a:α}{b:Option α}:(some a).or b=some a:=rfl
@[go_sem] theorem zLy {α:Type}{b:Option α}:(none:Option α).or b=b:=by cases b<;>rfl
section
variable {P:Program} {G:Nat→List FD} {S T:Tbl}
theorem sw (hS:b9 P G S)(hT:b9 P G T):b9 P G (Tbl.or S T):=fun f t xs r c ht hx hc=>by
 unfold Tbl.or at ht;cases h:S f with
 |none=>rw[h]at ht;exact hT f t xs r c ap hx hc
 |some t'=>rw[h]at ht;exact hS f t xs r c ap hx hc
theorem cA.tail {w:World}{L L':Loc}{F:Nat→Nat→Prop}{U U':Id→Prop}{g:FuncId}{xs:List FD}:∀{ds:List D} {vs:List Value},D.toFDs ds=some xs→cA w L F U (ds++[.fn g []]) vs→cA w L' F U' (xs.map .fz++[.fn g []]) vs:=by
 intro ds vs ha h;rw[cA.iff]at h ⊢;obtain⟨h1,h2⟩:=h;have hl:xs.length=ds.length:=by have:=cA.toFDs (w:=w) (L:=L) (F:=F) (U:=U) ds (vs.take ds.length) xs (by rw[cA.iff];refine⟨by rw[aD]at h1;simp only[aX];omega,fun j hj=>?_⟩;have:=h2 j qQz;rw[av,dh hj,←av]at this;rwa [av (l:=vs.take _),l7,aF hj,←av (l:=vs)]) ha;have h3:=this.1;rw[aD]at h1;simp only[aX]at h3;omega
 refine⟨by rw[aD,aG,hl,←aD];exact h1,fun j hj=>?_⟩;rw[aD,aG]at hj;have h3:=h2 j qQz;rcases aA j ds.length with h4|h4
 ·have hv:cA w L F U ds (vs.take ds.length):=by rw[cA.iff];refine⟨by rw[aD]at h1;simp only[aX];omega,fun i hi=>?_⟩;have:=h2 i qQz;rw[av,dh hi,←av]at this;rwa [av (l:=vs.take _),l7,aF hi,←av (l:=vs)]
  have:=((cA.iff _ _).1 (hv.of_toFDs (L':=L') (U':=U') ha)).2 j qQ6;rw[av,dh qQ6,←av];rwa [av (l:=vs.take _),l7,aF h4,←av (l:=vs)]at this
 ·obtain rfl:j=ds.length:=by simp only[bU]at hj;omega
  rw[av,ce (aI _),cM]at h3;rw[av,ce qQ6,aG,hl,cM];simp only[List.getElem?_cons_zero,bD,bw]at h3 ⊢;obtain⟨us,e,h5⟩:=h3;refine⟨us,e,?_⟩;cases us with
  |nil=>simp only[cA]
  |cons u us=>simp only[cA]at h5
theorem wC {f g:FuncId}{ds:List D}{xs:List FD}{r:D}{H:bR}{n:Nat}(ha:D.toFDs ds=some xs)
  (h:cS P G f (xs.map .fz++[.fn g []]) H0 0 (fun d _ _=>D.val d=some r)):cS P G f (ds++[.fn g []]) H n (fun d H' n'=>d=r∧H'=H∧n'=n):=by
 refine⟨h.1,fun w L F vs hok hvs=>?_⟩;refine(h.2 w L F vs ⟨hok.fb,(fun _ _ h=>nomatch h),(fun _ _ _ _ h=>nomatch h),hok.glob⟩ (hvs.tail ha)).mono fun e w' he=>?_;obtain⟨v,d,H',n',L',F',rfl,hd,g1,g2,g3⟩:=he;have nb:∀b,¬Blk H0 L b:=by rintro b ⟨_,_,h,_⟩;cases h
 have no:∀b k,¬Own H0 L b k:=by rintro b k ⟨_,_,h,_⟩;cases h
 have ext:Ext w L F (Ub n) w' L F' (Ub n):=⟨fun _ h=>h,fun _ _=>rfl,g3.f,fun b k hb=>g3.keepc b k (hok.fb b k hb) (no b k),g3.size,g3.shape⟩;refine⟨v,r,H,n,L,F',rfl,ak,⟨g1.fb,?_,hok.inj,g1.glob⟩,g2.val hd,?_⟩
 ·intro id o ho;obtain⟨h1,h2⟩:=hok.live id o ho;refine⟨h1,h2.ext ext h1 fun hv=>?_⟩;have hlt:=hok.blk_lt ho hv;refine⟨g3.keep _ hlt (nb _),fun k hk hF=>?_⟩;rcases g3.fnew _ _ hF with h|h|h
  all_goals grind[iL]
 ·refine⟨fun _ h=>h,fun _ _=>rfl,g3.f,g3.size,fun b hb _=>g3.keep b hb (nb b),fun b k hb _=>g3.keepc b k hb (no b k),g3.shape,fun b k hb=>?_,ap,g3.os,g3.tape,g3.output,g3.drawn⟩;rcases g3.fnew b k hb with h|h|h
  all_goals grind
end
mutual
def puD:D→Option D
 | .rp xs=>some (.rp xs)
 | .fn f caps=>(uu caps).map (D.fn f)
 | .fz x=>some (.fz x)
 | .full xs=>some (.fz (.sl xs))
 | .ow _ _ xs=>some (.fz (.sl xs))
 | .agg ds=>(D.toFD (.agg ds)).map .fz
 | .junk=>none
 | .ptr _ _=>none
 | .arr _ _ _ _=>none
 | .tup _=>none
def uu:List D→Option (List D)
 |[]=>some []
 |d::ds=>match puD d,uu ds with
  |some x,some xs=>some (x::xs)
  |_,_=>none
end
section
variable {w:World} {L L':Loc} {F:Nat→Nat→Prop} {U U':Id→Prop}
mutual
theorem bw.pu:∀(d d':D) (v:Value),puD d=some d'→bw w L F U d v→bw w L' F U' d' v
 | .rp xs,d',v,e,h=>by grind[puD,bw]
 | .fn f caps,d',v,e,h=>by rw[puD,bN]at e;obtain⟨cs,e1,rfl⟩:=e;simp only[bw]at h ⊢;obtain⟨vs,h1,h2⟩:=h;exact⟨vs,h1,cA.pu caps cs vs e1 h2⟩
 | .fz x,d',v,e,h=>by grind[puD,bw]
 | .full xs,d',v,e,h=>by grind[puD,bw]
 | .ow id es xs,d',v,e,h=>by grind[puD,bw]
 | .agg ds,d',v,e,h=>by grind[puD,Option.map_eq_some_iff,bw,bw.toFD]
 | .junk,d',v,e,h=>by rw[puD]at e;cases e
 | .ptr _ _,d',v,e,h=>by rw[puD]at e;cases e
 | .arr _ _ _ _,d',v,e,h=>by rw[puD]at e;cases e
 | .tup _,d',v,e,h=>by rw[puD]at e;cases e
theorem cA.pu:∀(ds ds':List D) (vs:List Value),uu ds=some ds'→cA w L F U ds vs→cA w L' F U' ds' vs
 |[],ds',vs,e,h=>by
  rw[uu]at e;cases e;cases vs with
  |nil=>simp only[cA]
  |cons=>simp only[cA]at h
 |d::ds,ds',vs,e,h=>by
  rw[uu]at e;cases h1:puD d with
  |none=>grind
  |some x=>
   cases h2:uu ds with
   |none=>grind
   |some xs=>
    rw[h1,h2]at e;cases e;cases vs with
    |nil=>simp only[cA]at h
    |cons v vs=>simp only[cA]at h ⊢;exact⟨bw.pu d x v h1 h.1,cA.pu ds xs vs h2 h.2⟩
end
end
section
variable {P:Program} {G:Nat→List FD}
end
@[go_sem] theorem zUV {n n':Nat}{pre:Id→Id}{vn:Id→Bool}{z:Id→Option (List FD)}{H:bR}{xs ys:List FD}:Dr n n' pre vn z H (.rp xs) (.rp ys)=(xs=ys):=by simp[Dr]
mutual
def rpD (id:Id)(ys:List FD):D→D
 | .ptr i k=>if i=id∧k=0 then .rp ys else .ptr i k
 | .fn f caps=> .fn f (sV id ys caps)
 | .agg ds=> .agg (sV id ys ds)
 | .tup ds=> .tup (sV id ys ds)
 | .junk=> .junk
 | .fz x=> .fz x
 | .full xs=> .full xs
 | .rp xs=> .rp xs
 | .arr i es s len=> .arr i es s len
 | .ow i es xs=> .ow i es xs
def sV (id:Id)(ys:List FD):List D→List D
 |[]=>[]
 |d::ds=>rpD id ys d::sV id ys ds
end
section
variable {w:World} {L:Loc} {F F':Nat→Nat→Prop} {U:Id→Prop} {id:Id} {ys:List FD}
mutual
theorem bw.rpd (hF:∀b k,F b k→F' b k)(hp:∀j,j<ys.length→F' (L id).1 ((L id).2+j)∧∃u,World.at w (L id).1 ((L id).2+j)=some u∧dD w F' u (ys.getD j .nilf)):
  ∀(d:D) (v:Value),bw w L F U d v→bw w L F' U (rpD id ys d) v
 | .ptr i k,v,h=>by
  rw[rpD];split
  ·rename_i e;obtain⟨rfl,rfl⟩:=e;simp only[bw]at h ⊢;grind
  simp_all[bw]
 | .fn f caps,v,h=>by rw[rpD];simp only[bw]at h ⊢;obtain⟨vs,h1,h2⟩:=h;exact⟨vs,h1,cA.rpd hF hp _ _ h2⟩
 | .agg ds,v,h=>by rw[rpD];simp only[bw]at h ⊢;obtain⟨vs,h1,h2⟩:=h;exact⟨vs,h1,cA.rpd hF hp _ _ h2⟩
 | .tup ds,v,h=>by rw[rpD];simp only[bw]at h ⊢;obtain⟨vs,h1,h2⟩:=h;exact⟨vs,h1,cA.rpd hF hp _ _ h2⟩
 | .junk,v,h=>by simp_all[rpD,bw]
 | .fz x,v,h=>bw.ext (U':=U) ⟨fun _ h=>h,fun _ _=>rfl,hF,ak,aI _,ap⟩ (.fz x) v h
 | .full xs,v,h=>bw.ext (U':=U) ⟨fun _ h=>h,fun _ _=>rfl,hF,ak,aI _,ap⟩ (.full xs) v h
 | .rp xs,v,h=>bw.ext (U':=U) ⟨fun _ h=>h,fun _ _=>rfl,hF,ak,aI _,ap⟩ (.rp xs) v h
 | .arr i es s len,v,h=>bw.ext (U':=U) ⟨fun _ h=>h,fun _ _=>rfl,hF,ak,aI _,ap⟩ (.arr i es s len) v h
 | .ow i es xs,v,h=>bw.ext (U':=U) ⟨fun _ h=>h,fun _ _=>rfl,hF,ak,aI _,ap⟩ (.ow i es xs) v h
theorem cA.rpd (hF:∀b k,F b k→F' b k)(hp:∀j,j<ys.length→F' (L id).1 ((L id).2+j)∧∃u,World.at w (L id).1 ((L id).2+j)=some u∧dD w F' u (ys.getD j .nilf)):
  ∀(ds:List D) (vs:List Value),cA w L F U ds vs→cA w L F' U (sV id ys ds) vs
 |[],[],_=>by simp_all[sV,cA]
 |d::ds,v::vs,h=>by rw[sV];simp only[cA]at h ⊢;exact⟨bw.rpd hF hp d v h.1,cA.rpd hF hp ds vs h.2⟩
 |[],_::_,h=>by simp only[cA]at h
 |_::_,[],h=>by simp only[cA]at h
end
end
section
variable {P:Program} {G:Nat→List FD} {N:Nat} {st:St}
end
section
variable {P:Program} {G:Nat→List FD} {T:Tbl} {N tag0:Nat} {am:Nat→Bool} {st:St} {a:Act} {w:World} {L:Loc} {F:Nat→Nat→Prop} {K:St→Prop} {ops:Array Oper}
theorem KP {t e:TypeId}{len:Nat}{te:TI}(hu:P.underlying t=some (.array len e))(he:cN P e=some te)(h1:te.size=1){b off:Nat}{kk:IntKind}{n:Int}(hn:0≤n)(hn2:n<len):
  (Instr.indexAt t (.pointer (some ⟨b,off,none⟩)) (.int kk n)).run P w= .ok (.pointer (some ⟨b,off+n.toNat,none⟩)) w:=by
 simp[Instr.indexAt,Instr.sureAddr,asIntOf,bc hu,hn,hn2,oK he,h1,mQ]
theorem Yx {s:TypeId}{f off:Nat}{fs:List (Nat×TypeId)}{ft:TypeId}{ts tf:TI}(hs:cN P s=some ts)(hf:ts.und= .struct fs)(hi:fs[f]?=some (off,ft))(htf:cN P ft=some tf)(h0:tf.size≠0){b o:Nat}:
  (Instr.fieldAt s (.pointer (some ⟨b,o,none⟩)) f).run P w= .ok (.pointer (some ⟨b,o+off,none⟩)) w:=by
 obtain⟨inf,z,u,g1,g2,g3,rfl⟩:=jg hs;obtain⟨fs',rfl,rfl⟩:=yJ hf;have hf':∃g,fs'[f]?=some g∧g.offset=off∧g.type=ft:=by simp only[bp,bN,aY]at hi;obtain⟨g,h1,h2,h3⟩:=hi;exact ap
 obtain⟨g,hg,rfl,rfl⟩:=hf';simp_all[fieldPlace,oK,mQ,Instr.fieldAt,bc,Instr.sureAddr]
theorem NM {o:Oper}{t x i}(ho:o.op= .indexAddr t x i):execOp a.eval o=(do pure (.value (←Instr.indexAt t (a.eval x) (a.eval i))):Sem Next):=by simp only[execOp,ho]
theorem QM {o:Oper}{t x i}(ho:o.op= .fieldAddr t x i):execOp a.eval o=(do pure (.value (←Instr.fieldAt t (a.eval x) i)):Sem Next):=by simp only[execOp,ho]
theorem QL {o:Oper}{Q:Exit→Act→World→Prop}(h:Rel G N st a w L F){t x i d}(ho:o.op= .indexAddr t x i)(hd:o.dst=some d)(hdN:d<N){len e te}(hu:P.underlying t=some (.array len e))(he:cN P e=some te)(h1:te.size=1)
  {id k kk n}(hx:st.ev G x= .ptr id k)(hi:st.ev G i= .fz (.i kk n))(hn:0≤n)(hn2:n<len)(hK:K (st.put o.dst (.ptr id (k+n.toNat)))):o.wp P a w (Sat G N st w L F K) Q:=by
 refine vH h (by simp[hd,fI,hdN]) hK ?_;have hxr:=h.ev x;rw[hx]at hxr;simp only[bw]at hxr;obtain⟨g1,g2,g3⟩:=hxr;have hir:=h.ev i;rw[hi]at hir;obtain⟨g4,_⟩:=mH hir;refine⟨.pointer (some ⟨(L id).1,(L id).2+k+n.toNat,none⟩),w,F,?_,h.ok,?_,dH.refl _ _ _ _ _⟩
 ·rw[NM ho,g3,g4];grind[rD,KP]
 simp_all[bw,cz]
theorem wT (hT:b9 P G T){Q':Exit→Act→World→Prop}{r:List Nat}:∀(l:List Oper) (k:Nat),(∀j o,l[j]?=some o→ops[k+j]?=some o)→∀(st:St) (a:Act) (w:World) (L:Loc) (F:Nat→Nat→Prop),Rel G N st a w L F→lH P G T N tag0 am ops l K st→
  (∀a' w',Sat G N st w L F K a' w'→wpOps P ops Q' r a' w')→wpOps P ops Q' ((List.range l.length).map (k+·)++r) a w
 |[],k,_,st,a,w,L,F,h,hs,hQ=>by simp only[bj,List.range_zero,aQ,aK];exact hQ _ _ ⟨st,L,F,hs,h,dH.refl _ _ _ _ _⟩
 |o::l,k,hl,st,a,w,L,F,h,hs,hQ=>by
  have h0:ops[k]?=some o:=hl 0 o rfl;have hrest:(List.range (o::l).length).map (k+·)=k::(List.range l.length).map (k+1+·):=by simp only[aN,gf,aM,bX,bJ];congr 1;apply bB;intro j _;simp;omega
  rw[hrest,a6];simp only[wpOps,h0];have ih:∀(st1:St) (a1:Act) (w1:World) (L1:Loc) (F1:Nat→Nat→Prop),Rel G N st1 a1 w1 L1 F1→oY st w L F st1 w1 L1 F1→lH P G T N tag0 am ops l K st1→wpOps P ops Q' ((List.range l.length).map (k+1+·)++r) a1 w1:=
   fun st1 a1 w1 L1 F1 hr hst hs'=>wT hT l (k+1) (fun j o' ho'=>by have:=hl (j+1) o' (by simpa using ho');rw[←this];congr 1;omega) st1 a1 w1 L1 F1 hr hs' (fun a' w' hsat=>hQ _ _ (hsat.trans hst))
  obtain⟨b,hb,h1,h2⟩:=iM hs;rw[uA h hb];cases b with
  |true=>simp only[cJ];exact .inl (gm (fun a1 w1 ⟨st1,L1,F1,h1,h2,h3⟩=>ap) (zu h (z7 hT o (h1 rfl))))
  |false=>
   simp only[bK,cd];obtain⟨hd,hs'⟩:=h2 rfl;have hH:(st.put o.dst (.tup [])).H=st.H:=by cases o.dst<;>rfl
   have hn:(st.put o.dst (.tup [])).n=st.n:=by cases o.dst<;>rfl
   refine ih (st.put o.dst (.tup [])) (a.put o.dst undef) w L F (h.put (st':=st.put o.dst (.tup [])) (by rw[hH,hn];exact h.ok) (by simp_all[dH.refl]) hd qWa rfl) ?_ hs';simp_all[oY,dH.refl]
def Fs (P:Program)(G:Nat→List FD)(N:Nat)(t:TypeId)(x i:Operand)(d:Nat)(K:St→Prop)(st:St):Prop:=
 ∃len e te id k kk n,P.underlying t=some (.array len e)∧cN P e=some te∧te.size=1∧d<N∧st.ev G x= .ptr id k∧st.ev G i= .fz (.i kk n)∧0≤n∧n<(len:Int)∧K (st.put (some d) (.ptr id (k+n.toNat)))
theorem YL (hT:b9 P G T){Q:Exit→St→Prop}{rid:Nat}(pre post:List Oper){o:Oper}{t x i d}(hops:ops.toList=pre++o::post)(ho:o.op= .indexAddr t x i)(hd:o.dst=some d)(hg:o.guard=none)
  (h:lH P G T N tag0 am ops pre (Fs P G N t x i d fun s=>lH P G T N tag0 am ops post (Q .normal) s) st):W P G N (.region rid ops false) Q st:=by
 intro a w L F hr;refine wp_region ?_;have hget:∀(j:Nat) (o':Oper),ops.toList[j]?=some o'→ops[j]?=some o':=ak
 have e:List.range ops.size=(List.range pre.length).map (0+·)++(pre.length::((List.range post.length).map (pre.length+1+·)++[])):=by
  have hs:ops.size=pre.length+(1+post.length):=by rw[←cG,hops];simp;omega
  rw[hs,List.range_add,bP];congr 1
  ·simp
  ·rw[jo 1,gf];simp only[aM,bX,bJ];congr 1;grind[List.map_congr_left]
 rw[e];refine wT hT (Q':=fun e a' w'=>Sat G N st w L F (Q e) a' w') pre 0 ap st a w L F hr h ?_;rintro a1 w1 ⟨st1,L1,F1,⟨len,e',te,id,k,kk,n,u1,u2,u3,u4,u5,u6,u7,u8,u9⟩,h2,h3⟩;have h0:ops[pre.length]?=some o:=ap
 have hw:Region.wanted o (yielded ops a1.tmps)=true:=by simp[Region.wanted,hg]
 simp only[wpOps,h0,hw,cJ];refine .inl (gm (fun a2 w2 hs=>?_) (QL (K:=fun s=>lH P G T N tag0 am ops post (Q .normal) s) h2 ho hd u4 u1 u2 u3 u5 u6 u7 u8 (by rw[hd];exact u9)));obtain⟨st2,L2,F2,k1,k2,k3⟩:=hs;exact wT hT (Q':=fun e a' w'=>Sat G N st w L F (Q e) a' w') post (pre.length+1) (fun j o' h'=>by
  refine hget _ o' ?_;rw[hops,ce ae];rw[show pre.length+1+j-pre.length=j+1 by omega];grind) st2 a2 w2 L2 F2 k2 k1
  (fun a3 w3 hs=>by simp only[wpOps];exact(hs.trans k3).trans h3)
theorem Oper.wp_keep {o:Oper}{x:Tmp}{v0:Value}{K':Act→World→Prop}{Q:Exit→Act→World→Prop}(hx:o.dst≠some x)(hI:a.tmps.getD x undef=v0)(h:o.wp P a w K' Q):o.wp P a w (fun a' w'=>K' a' w'∧a'.tmps.getD x undef=v0) Q:=by
 have hput:∀(b:Act) v,b.tmps=a.tmps→(b.put o.dst v).tmps.getD x undef=v0:=fun b v hb=>by
  cases hd:o.dst with
  |none=>simp_all[Act.put]
  |some d=>simp_all[Act.put]
 unfold Oper.wp at*;generalize (execOp a.eval o).run P w=r at*;simp_all[Oper.upon]
theorem ZF (hT:b9 P G T){Q':Exit→Act→World→Prop}{K':Act→World→Prop}{o:Oper}{q:Bool}(hgn:o.guard=none)(h:Rel G N st a w L F)(hs:iG P G T N tag0 ops q o st K)
  (hk:∀a' w',Sat G N st w L F K a' w'→K' a' w'):o.wp P a w K' Q':=by
 have hgv:nC ops st.fr o.guard=some true:=by rw[hgn];rfl
 have sym:∀{K},jN P G N tag0 o st K→(∀a' w',Sat G N st w L F K a' w'→K' a' w')→o.wp P a w K' Q':=fun h1 h2=>gm h2 (zu h h1);unfold iG at hs;split at hs
 ·obtain⟨d,c,h1,h2,h3,h4⟩:=hs;unfold qv at h1;rw[hgv]at h1;exact sym (B8 hT h2 h1 h3 h4) hk
 grind
theorem Oz (hT:b9 P G T){ops2:Array Oper}{x:Tmp}{v0:Value}(hsz:ops2.size=ops.size)
  (hop:∀(i:Nat) (o:Oper),ops2[i]?=some o→∃o':Oper,ops[i]?=some o'∧o'.dst=o.dst∧o'.guard=none∧o.guard=none∧o'.after=o.after∧o.dst≠some x∧∀(a:Act) w,a.tmps.getD x undef=v0→(execOp a.eval o').run P w=(execOp a.eval o).run P w)
  {q:Nat→Bool}{Q':Exit→Act→World→Prop}:∀(fuel:Nat) (listed:Array Bool) (st:St) (a:Act) (w:World) (L:Loc) (F:Nat→Nat→Prop),Rel G N st a w L F→a.tmps.getD x undef=v0→pN P G T N tag0 ops q K fuel listed st→
  (∀a' w',Sat G N st w L F K a' w'→Q' .normal a' w')→wpAny P .any ops2 Q' fuel listed a w:=by
 have hrd:∀listed,Region.ready .any ops2 listed=Region.ready .any ops listed:=fun listed=>by unfold Region.ready;grind
 intro fuel;induction fuel with
 |zero=>exact fun listed st a w L F h _ hs hQ=>⟨by rw[hrd];exact hs.1,hQ _ _ ⟨st,L,F,hs.2,h,dH.refl _ _ _ _ _⟩⟩
 |succ fuel ih=>
  intro listed st a w L F h hI hs hQ;refine⟨fun hr=>hQ _ _ ⟨st,L,F,hs.1 ap,h,dH.refl _ _ _ _ _⟩,fun i hi=>?_⟩;obtain⟨_,o,ho,_⟩:=iB.1 hi;obtain⟨o',h1,h2,h3,h3',h4,h5,h6⟩:=hop i o ho;have hw:Region.wanted o (yielded ops2 a.tmps)=true:=by simp[Region.wanted,h3']
  unfold wpOp;simp only[ho,hw,cJ];refine .inl ?_;have key:o'.wp P a w (fun a' w'=>wpAny P .any ops2 Q' fuel (listed.setIfInBounds i true) a' w') Q':=by have k1:=ZF hT (Q':=Q') (K':=Sat G N st w L F (pN P G T N tag0 ops q K fuel (listed.setIfInBounds i true))) h3 h (hs.2 i (by rw[←hrd];exact hi) o' h1) (fun _ _ hs=>hs);refine gm ?_ (Oper.wp_keep (x:=x) (v0:=v0) ap hI k1);rintro a' w' ⟨⟨st1,L1,F1,g1,g2,g3⟩,hI'⟩;exact ih _ st1 a' w' L1 F1 g2 hI' g1 fun a2 w2 hsat=>hQ _ _ (hsat.trans g3)
  simp_all[Oper.wp,Oper.upon]
theorem X3 (hm:P.follows .mixedOrders=true)(hT:b9 P G T){q:Exit→St→Prop}{rid:Nat}{ops2:Array Oper}(tag0:Nat)(am:Nat→Bool)(x:Tmp){id:Id}{k:Nat}(hx:st.fr x= .ptr id k)(hsz:ops2.size=ops.size)
  (hop:∀(i:Nat) (o:Oper),ops2[i]?=some o→∃o':Oper,ops[i]?=some o'∧o'.dst=o.dst∧o'.guard=none∧o.guard=none∧o'.after=o.after∧o.dst≠some x∧∀(a:Act) w b off,a.tmps.getD x undef= .pointer (some ⟨b,off,none⟩)→(execOp a.eval o').run P w=(execOp a.eval o).run P w)
  (t:Tv)(ht:oe am T ops t (Array.replicate ops.size false) true=true)(hd:decide (ny t≤ops.size)=true)(h:@mX P G T N tag0 am ops t st ⟨q .normal⟩):@WK P G N (.region rid ops2 true) st ⟨q⟩:=by
 unfold WK;unfold mX at h;intro a w L F hr;refine wp_region_any hm ?_;have hr':Rel G N st a {w with drawn:=w.drawn+1} L F:=⟨hr.ok.heap rfl,hr.size,fun t=>(hr.fr t).ext (by grind[zd]),hr.nd⟩;have hst:oY st w L F st {w with drawn:=w.drawn+1} L F:=⟨fun _ h=>h,fun _ _=>rfl,fun _ _ h=>h,aI _,ak,fun _ _ _ _=>rfl,ap,ap,ap,rfl,rfl,rfl,Nat.le_succ _⟩;have hfr:qG st:=fun id hid=>by
  cases ho:st.H id with
  |none=>rfl
  |some o=>exact absurd (hr.ok.live _ o ho).1 (Nat.not_lt.2 hid)
 have hxr:=hr.fr x;rw[hx]at hxr;simp only[bw]at hxr;rw[hsz]
 exact Oz hT (x:=x) (v0:= .pointer (some ⟨(L id).1,(L id).2+k,none⟩)) hsz ap
  (Q':=fun e a' w'=>Sat G N st w L F (q e) a' w') _ _ st a _ L F hr' hxr.2.2 (MH hT ops.size t _ true st (fun _=>hfr) ht ap h) (fun _ _ hs=>hs.trans hst)
def oP (P:Program)(G:Nat→List FD)(N:Nat)(t:TypeId)(x i:Operand)(d:Nat)(st:St)[k:Kn St]:Prop:=Fs P G N t x i d k.run st
theorem pc (hT:b9 P G T){q:Exit→St→Prop}{rid:Nat}(tag0:Nat)(am:Nat→Bool)(j:Nat){o:Oper}{t x i d}(hj:ops.toList[j]?=some o)(ho:o.op= .indexAddr t x i)(hd:o.dst=some d)(hg:o.guard=none)
  (h:@oB P G T N tag0 am ops (ops.toList.take j) st ⟨fun s=>@oP P G N t x i d s ⟨fun s=>@oB P G T N tag0 am ops (ops.toList.drop (j+1)) s ⟨q .normal⟩⟩⟩):@WK P G N (.region rid ops false) st ⟨q⟩:=by
 unfold WK;unfold oB at h;have hlt:=(dw.1 hj).1;have he:=(dw.1 hj).2;refine YL hT (ops.toList.take j) (ops.toList.drop (j+1)) ?_ ho hd hg h;grind[List.drop_eq_getElem_cons,List.take_append_drop]
theorem oP.i {t x i d len e te id k kk n}{kc:St→Prop}(hu:P.underlying t=some (.array len e))(he:cN P e=some te)(h1:te.size=1)(hd:d<N)(hx:st.ev G x= .ptr id k)(hi:st.ev G i= .fz (.i kk n))(hn:0≤n∧n<(len:Int))
  (h:kc (st.put (some d) (.ptr id (k+n.toNat)))):@oP P G N t x i d st ⟨kc⟩:=⟨len,e,te,id,k,kk,n,hu,he,h1,hd,hx,hi,hn.1,hn.2,h⟩
def qJ (t s:TypeId)(o:Oper):Oper:=
 {o with op:=match o.op with
  | .indexAddr t' x (.const (.int k n))=>if t'=t then .fieldAddr s x n.toNat else .indexAddr t' x (.const (.int k n))
  |op=>op}
def xL (t:TypeId)(x:Tmp)(len:Nat)(o:Oper):Bool:=
 o.guard.isNone&&o.dst !=some x&&(match o.op with
  | .indexAddr t' y (.const (.int _ n))=>if t'=t then(match y with| .tmp z=>z==x|_=>false)&&decide (0≤n)&&decide (n<(len:Int))else true
  |_=>true)
theorem PU {t s e:TypeId}{x:Tmp}{len:Nat}{te ts:TI}{fs:List (Nat×TypeId)}(hu:P.underlying t=some (.array len e))(he:cN P e=some te)(h1:te.size=1)(hs:cN P s=some ts)(hf:ts.und= .struct fs)
  (hfs:∀f,f<len→∃ft tf,fs[f]?=some (f,ft)∧cN P ft=some tf∧tf.size≠0){o:Oper}(hb:xL t x len o=true){b off:Nat}(hI:a.tmps.getD x undef= .pointer (some ⟨b,off,none⟩)):
  (execOp a.eval (qJ t s o)).run P w=(execOp a.eval o).run P w:=by
 obtain⟨dst,op,type,pos,after,guard⟩:=o;by_cases h:∃y k n,op= .indexAddr t y (.const (.int k n))
 ·obtain⟨y,k,n,rfl⟩:=h;simp only[xL,cJ,aS,bi]at hb;obtain⟨_,⟨hy,h0⟩,h2⟩:=hb;cases y<;>simp only[bK]at hy;rename_i z;obtain rfl:z=x:=ap
  obtain⟨ft,tf,g1,g2,g3⟩:=hfs n.toNat ae;have e1:(execOp a.eval (qJ t s ⟨dst,.indexAddr t (.tmp z) (.const (.int k n)),type,pos,after,guard⟩)).run P w= .ok (.value (.pointer (some ⟨b,off+n.toNat,none⟩))) w:=by rw[QM (t:=s) (x:= .tmp z) (i:=n.toNat) (by simp[qJ])];refine rD ?_;rw[show a.eval (.tmp z)= .pointer (some ⟨b,off,none⟩)from hI];exact Yx hs hf g1 g2 g3
  have e2:(execOp a.eval ⟨dst,.indexAddr t (.tmp z) (.const (.int k n)),type,pos,after,guard⟩).run P w= .ok (.value (.pointer (some ⟨b,off+n.toNat,none⟩))) w:=by rw[NM (t:=t) (x:= .tmp z) (i:= .const (.int k n)) rfl];refine rD ?_;rw[show a.eval (.tmp z)= .pointer (some ⟨b,off,none⟩)from hI];exact KP hu he h1 h0 h2
  grind
 grind[qJ]
theorem OG (hm:P.follows .mixedOrders=true)(hT:b9 P G T){q:Exit→St→Prop}{rid:Nat}(tag0:Nat)(am:Nat→Bool)(x:Tmp)(t s:TypeId){e:TypeId}{len:Nat}{te ts:TI}{fs:List (Nat×TypeId)}{id:Id}{k:Nat}(hx:st.fr x= .ptr id k)
  (hu:P.underlying t=some (.array len e))(he:cN P e=some te)(h1:te.size=1)(hs:cN P s=some ts)(hf:ts.und= .struct fs)
  (hfs:∀f,f<len→∃ft tf,fs[f]?=some (f,ft)∧cN P ft=some tf∧tf.size≠0)(hall:ops.toList.all (xL t x len)=true)
  (tr:Tv)(ht:oe am T (ops.map (qJ t s)) tr (Array.replicate (ops.map (qJ t s)).size false) true=true)(hd:decide (ny tr≤(ops.map (qJ t s)).size)=true)
  (h:@mX P G T N tag0 am (ops.map (qJ t s)) tr st ⟨q .normal⟩):@WK P G N (.region rid ops true) st ⟨q⟩:=by
 refine X3 hm hT tag0 am x hx ak (fun i o ho=>?_) tr ht hd h;have hb:xL t x len o=true:=ap
 have hb':=hb;unfold xL at hb';simp only[aS,Option.isNone_iff_eq_none,bne_iff_ne,ne_eq]at hb';exact⟨qJ t s o,by simp[ho],rfl,hb'.1.1,hb'.1.1,rfl,hb'.1.2,(by grind[PU])⟩
def XE (P:Program)(G:Nat→List FD)(T:Tbl)(N tag0:Nat)(am:Nat→Bool):Code→(Exit→St→Prop)→St→Prop
 | .skip,Q,st=>Q .normal st
 | .seq x y,Q,st=>XE P G T N tag0 am x (Be (XE P G T N tag0 am y Q) Q) st
 | .cond c x y,Q,st=>xI (XE P G T N tag0 am x Q st) (XE P G T N tag0 am y Q st) (st.ev G c)
 | .block id c,Q,st=>XE P G T N tag0 am c (tJ id Q) st
 | .exit id,Q,st=>Q (.exit id) st
 | .ret,Q,st=>Q .ret st
 | .region id ops false,Q,st=>mA (am (1000000+id)) (W P G N (.region id ops false) Q st) (lH P G T N tag0 am ops ops.toList (Q .normal) st)
 | .region id ops true,Q,st=>mA (am (1000000+id)) (W P G N (.region id ops true) Q st) (lH P G T N tag0 am ops ops.toList (Q .normal) st)
 |c,Q,st=>W P G N c Q st
theorem tN (hm:P.follows .mixedOrders=true)(hT:b9 P G T):∀(c:Code) (Q:Exit→St→Prop) (st:St),mc am T c=true→XE P G T N tag0 am c Q st→W P G N c Q st
 | .skip,_,_,_,h=>EP h
 | .seq x y,Q,st,hd,h=>by
  simp only[XE]at h;simp only[mc,aS]at hd;refine Fx (EO (tN hm hT x _ st hd.1 h) fun e st1 h1=>?_);cases e with
  |normal=>exact tN hm hT y Q st1 hd.2 h1
  |_=>exact h1
 | .cond c x y,Q,st,hd,h=>by
  simp only[XE]at h;simp only[mc,aS]at hd;unfold xI at h;split at h
  ·rename_i t ht;exact EL ht (fun hh=>tN hm hT x Q st hd.1 (h.1 hh)) (fun hh=>tN hm hT y Q st hd.2 (h.2 hh))
  grind
 | .block id c,Q,st,hd,h=>by grind[Nr,tN hm hT c _ st hd h]
 | .exit id,_,_,_,h=>EM h
 | .ret,_,_,_,h=>Fw h
 | .region id ops false,Q,st,_,h=>by
  simp only[XE]at h;cases ha:am (1000000+id)with
  |true=>exact h.1 ha
  |false=>exact JT hT (h.2 ha)
 | .region id ops true,Q,st,hd,h=>by
  simp only[XE]at h;simp only[mc]at hd;cases ha:am (1000000+id)with
  |true=>exact h.1 ha
  |false=>exact Ns hm hT ap (h.2 ha)
 | .loop _,Q,st,_,h=>by simpa only[XE]using h
 | .rangeFunc _ _ _ _,Q,st,_,h=>by simpa only[XE]using h
 | .scope _,Q,st,_,h=>by simpa only[XE]using h
 | .label _,Q,st,_,h=>by simpa only[XE]using h
 | .goto _,Q,st,_,h=>by simpa only[XE]using h
 | .refuse _,Q,st,_,h=>by simpa only[XE]using h
def XEK (P:Program)(G:Nat→List FD)(T:Tbl)(N tag0:Nat)(am:Nat→Bool)(c:Code)(st:St)[q:Ke]:Prop:=XE P G T N tag0 am c q.run st
end
section
attribute [local semireducible] BiK obK lT mD gG VvK XOK xp Cw y8 y9 DR w9 oB XCK DS wa uW wb dJ WK xy
variable {P:Program} {G:Nat→List FD} {T:Tbl} {N tag0:Nat} {am:Nat→Bool} {st:St} {ops:Array Oper} {q:Exit→St→Prop} {x:Operand}
@[go_sem] theorem zIt:@XEK P G T N tag0 am (.skip) st ⟨q⟩=q .normal st:=(rfl)
@[go_sem] theorem zKJ {c d:Code}:@XEK P G T N tag0 am (.seq c d) st ⟨q⟩=@XEK P G T N tag0 am c st ⟨fun e st=>@wa e st ⟨fun st=>@XEK P G T N tag0 am d st ⟨q⟩⟩ ⟨q⟩⟩:=(rfl)
@[go_sem] theorem zIp {c d:Code}:@XEK P G T N tag0 am (.cond x c d) st ⟨q⟩=@DS (st.ev G x) ⟨@XEK P G T N tag0 am c st ⟨q⟩⟩ ⟨@XEK P G T N tag0 am d st ⟨q⟩⟩:=(rfl)
@[go_sem] theorem zGS {i:Nat}{c:Code}:@XEK P G T N tag0 am (.block i c) st ⟨q⟩=@XEK P G T N tag0 am c st ⟨fun e st=>@uW i e st ⟨q⟩⟩:=(rfl)
@[go_sem] theorem zIr {i:Nat}:@XEK P G T N tag0 am (.exit i) st ⟨q⟩=q (.exit i) st:=(rfl)
@[go_sem] theorem zKI:@XEK P G T N tag0 am (.ret) st ⟨q⟩=q .ret st:=(rfl)
@[go_sem] theorem zFo {i:Nat}:@XEK P G T N tag0 am (.region i ops false) st ⟨q⟩=@gG (am (1000000+i)) ⟨@WK P G N (.region i ops false) st ⟨q⟩⟩ ⟨@oB P G T N tag0 am ops ops.toList st ⟨q .normal⟩⟩:=(rfl)
@[go_sem] theorem zIq {i:Nat}:@XEK P G T N tag0 am (.region i ops true) st ⟨q⟩=@gG (am (1000000+i)) ⟨@WK P G N (.region i ops true) st ⟨q⟩⟩ ⟨@oB P G T N tag0 am ops ops.toList st ⟨q .normal⟩⟩:=(rfl)
@[go_sem] theorem zIs {c:Code}:@XEK P G T N tag0 am (.loop c) st ⟨q⟩=@WK P G N (.loop c) st ⟨q⟩:=(rfl)
theorem uV (hm:P.follows .mixedOrders=true)(hT:b9 P G T)(tag0:Nat)(am:Nat→Bool){ι:Type}{c:Code}(I:Ki ι)(i:ι)(hd:mc am T c=true)(h0:gH G N st (I.st i))
  (round:∀i,@XEK P G T N tag0 am c (I.st i) ⟨fun e st=>@xy G N ι I i e st ⟨q⟩⟩):@WK P G N (.loop c) st ⟨q⟩:=
 EN I.st I.mu i h0 fun i=>tN hm hT c _ _ hd (round i)
end
attribute [irreducible] XEK oP
end Go.Abs
