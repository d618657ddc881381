/- a framework of my own: an abstract walk over the machine, part 3; no conditions -/
import Derived.Test.YtalbdmcklgglbaaDoorA2
import Derived.Deep.Slices
import Derived.ChangeArms
set_option linter.unusedSimpArgs false
namespace Go.Abs
open Go
section
variable {P:Program} {G:Nat→List FD} {T:Tbl}
theorem zbt {f:FuncId}{args:List D}{H:zas}{n:Nat}{Q R:D→zas→Nat→Prop}(h:zav P G f args H n Q)
  (hq:∀d H n,Q d H n→∃d' H' n',zgh G 1 ⟨frL [(0,d)],H,n⟩ ⟨frL [(0,d')],H',n'⟩∧R d' H' n'):zav P G f args H n R:=by
 refine⟨h.1,fun w L F vs hok hvs=>(h.2 w L F vs hok hvs).mono fun e w' he=>?_⟩
 obtain⟨v,d,H1,n1,L1,F1,e1,e2,e3,e4,e5⟩:=he
 obtain⟨d',H',n',hW,hR⟩:=hq d H1 n1 e2
 have hrel:Rel G 1 ⟨frL [(0,d)],H1,n1⟩ {tmps:= #[v],defers:=[]} w' L1 F1:=by
  refine⟨e3,rfl,fun t=>?_,rfl⟩
  simp only[frL]
  by_cases ht:t=0
  ·subst ht;simpa using e4
  ·rw[if_neg ht];simp[zak]
 obtain⟨L2,F2,h1,h2⟩:=hW _ w' L1 F1 hrel
 have:=h1.fr 0
 simp only[frL,if_true]at this
 exact⟨v,d',H',n',L2,F2,e1,hR,h1.ok,by simpa using this,zbL.trans e5 h2⟩
def zu7 {α ρ σ:Type}[Enc α][Enc ρ][Enc σ](f:α→ρ×σ)(pre:α→Prop):List FD→Option (D×Prop)
 |[x]=>some (.tup [.fz (enc (f (dec x)).1),.fz (enc (f (dec x)).2)],x=enc (dec (α:=α) x)∧pre (dec x))
 |_=>none
@[go_sem] theorem zEp {α ρ σ:Type}[Enc α][Enc ρ][Enc σ]{f:α→ρ×σ}{pre:α→Prop}{x:FD}:zu7 f pre [x]=some (.tup [.fz (enc (f (dec x)).1),.fz (enc (f (dec x)).2)],x=enc (dec (α:=α) x)∧pre (dec x)):=rfl
theorem zr7 {α ρ σ:Type}[Enc α][Enc ρ][Enc σ]{f:FuncId}{g:α→ρ×σ}{pre:α→Prop}(hc:zam P f)(hT:zan P G T)
  (h:∀a,pre a→(enc a).Wf→zav P G f [.fz (enc a)] (hpL []) 0 (fun d _ _=>D.val d=some (.tup [.fz (enc (g a).1),.fz (enc (g a).2)]))):zan P G (T.add f (zu7 g pre)):=by
 refine zcB hT fun xs r c hx hcc=>?_
 unfold zu7 at hx
 split at hx
 ·rename_i x
  simp only[Option.some.injEq,Prod.mk.injEq]at hx
  obtain⟨rfl,rfl⟩:=hx
  obtain⟨e,hp⟩:=hcc
  refine zdP hc fun hw=>?_
  rw[zdo]
  have:=h (dec x) hp (by rw[←e];exact hw x (by simp))
  rw[←e]at this
  exact this
 ·cases hx
end
@[go_sem] theorem zGK {n n':Nat}{pre:Id→Id}{vn:Id→Bool}{z:Id→Option (List FD)}{H:zas}{ds ds':List D}:Dr n n' pre vn z H (.tup ds) (.tup ds')=Drs n n' pre vn z H ds ds':=by
 simp only[Dr,D.tup.injEq,eq_iff_iff]
 exact⟨fun⟨_,h1,h2⟩=>h1▸h2,fun h=>⟨_,rfl,h⟩⟩
end Go.Abs
namespace Go.Abs
open Go
section
variable {P:Program} {G:Nat→List FD} {T:Tbl}
theorem zoq {f:FuncId}{args:List D}{H:zas}{n:Nat}{Q:D→zas→Nat→Prop}(h:zav P (fun _=>[]) f args H n Q):zav P G f args H n Q:=by
 refine⟨h.1,fun w L F vs hok hvs=>(h.2 w L F vs ⟨hok.fb,hok.live,hok.inj,⟨fun g j hg=>absurd hg (by simp),fun g hg=>absurd rfl hg⟩⟩ hvs).mono fun e w' he=>?_⟩
 obtain⟨v,d,H',n',L',F',e1,e2,e3,e4,e5⟩:=he
 have hx:=e5.ext (G:=fun _=>[]) ⟨hok.fb,hok.live,hok.inj,⟨fun g j hg=>absurd hg (by simp),fun g hg=>absurd rfl hg⟩⟩
 exact⟨v,d,H',n',L',F',e1,e2,⟨e3.fb,e3.live,e3.inj,zdT hx.f hx.fk hok.glob⟩,e4,e5⟩
theorem zil (h:zan P (fun _=>[]) T):zan P G T:=fun f t xs r c ht hx hc=>zoq (h f t xs r c ht hx hc)
@[go_sem] theorem zxi {x:FD}{xs:List FD}:zvW (x::xs)= .rp (x::xs):=rfl
@[go_sem] theorem zyu:zvW []= .junk:=rfl
end
end Go.Abs
namespace Go.Abs
open Go Go.Deep
def zkd (w:World):Nat→Nat→Prop:=fun b _=>b<w.heap.size
structure zki (blk:(H:Type)→DataW H→Nat):Prop where
 s:∀H b,b.length≤blk H (.lit (.string b))
 sl:∀H es sp,es.length≤blk H (.slice es sp)
 el:∀H es sp d,d∈es→blk H d≤blk H (.slice es sp)
 ag:∀H ps d,d∈ps→blk H d≤blk H (.agg ps)
def Rd (blk:(H:Type)→DataW H→Nat)(P:Program)(t:TypeId)(α:Type)[Enc α]:Prop:=
 ∀{H:Type} {en:TypeId×Value→H} {w:World} {base:Nat} {spare:Nat→Bool} {held:Bool} {fuel:Nat} {cs:List Value} {x:DataW H×List MemPlace},
  DataW.trod en P w base spare held fuel t cs=some x→blk H x.1≤1048576→∃a:α,cs.length=(enc a).cells.length∧∀j,j<cs.length→zbn w (zkd w) (cs.getD j undef) ((enc a).cells.getD j .nilf)
theorem zrG {blk:(H:Type)→DataW H→Nat}(hB:zki blk){P:Program}{t:TypeId}(ht:P.underlying t=some .string):Rd blk P t Str:=by
 intro H en w base spare held fuel cs x h hb
 obtain⟨s,rfl,rfl,_⟩:=DataW.trod_string ht h
 have hs:s.size≤1048576:=by
  have e:s.size=s.data.toList.length:=by rw[Array.length_toList];rfl
  rw[e];exact Nat.le_trans (hB.s _ _) hb
 refine⟨⟨s.data.toList⟩,rfl,fun j hj=>?_⟩
 obtain rfl:j=0:=by simp at hj;omega
 exact .s s (Nat.le_trans hs (by unfold zaZ;decide))
theorem zhy {α:Type}{p:Nat→α→Prop}:∀(n:Nat),(∀i,i<n→∃a,p i a)→∃l:List α,l.length=n∧∀i (h:i<l.length),p i l[i]
 |0,_=>⟨[],rfl,fun i h=>by simp at h⟩
 |n+1,h=>by
  obtain⟨l,h1,h2⟩:=zhy n fun i hi=>h i (by omega)
  obtain⟨a,ha⟩:=h n (by omega)
  refine⟨l++[a],by simp[h1],fun i hi=>?_⟩
  by_cases e:i<l.length
  ·rw[List.getElem_append_left e];exact h2 i e
  ·have:i=n:=by simp[h1]at hi;omega
   subst this
   rw[List.getElem_append_right (by omega)]
   simpa[h1]using ha
theorem cells?_get {w:World}{base:Nat}{a:Addr}:∀{n:Nat} {cs:List Value},w.cells? base a n=some cs→cs.length=n∧∀j,j<n→w.cell? (a.add j)=some (cs.getD j undef):=by
 intro n cs h
 unfold World.cells? at h
 split at h
 ·have key:∀(l:List Nat) (cs:List Value),l.mapM (fun i=>w.cell? (a.add i))=some cs→cs.length=l.length∧∀j (hj:j<l.length),w.cell? (a.add l[j])=some (cs.getD j undef):=by
   intro l
   induction l with
   |nil=>intro cs h;simp at h;subst h;simp
   |cons i l ih=>
    intro cs h
    simp only[List.mapM_cons,Option.bind_eq_bind,Option.bind_eq_some_iff,Option.pure_def,Option.some.injEq]at h
    obtain⟨v,h1,vs,h2,rfl⟩:=h
    obtain⟨g1,g2⟩:=ih vs h2
    refine⟨by simp[g1],fun j hj=>?_⟩
    cases j with
    |zero=>simpa using h1
    |succ j=>simpa using g2 j (by simpa using hj)
  obtain⟨g1,g2⟩:=key _ _ h
  refine⟨by simpa using g1,fun j hj=>?_⟩
  have:=g2 j (by simpa using hj)
  simpa using this
 ·cases h
theorem cell?_some {w:World}{a:Addr}{v:Value}(h:w.cell? a=some v):a.spot=none∧∃cs T fr,w.heap[a.block]?=some (.cells cs T fr)∧cs[a.off]?=some v:=by
 unfold World.cell? at h
 split at h
 ·rename_i cs T fr hc
  split at h
  ·cases h
  ·rename_i hs
   exact⟨by cases hh:a.spot<;>simp_all,cs,T,fr,hc,h⟩
 ·cases h
end Go.Abs
namespace Go.Abs
open Go
structure zBj (W W':World):Prop where
 heap:∀b,b<W.heap.size→W'.heap[b]?=W.heap[b]?
 size:W.heap.size≤W'.heap.size
 os:W'.os=W.os
 tape:W'.tape=W.tape
 output:W'.output=W.output
theorem zpd {G:Nat→List FD}{W:World}(h:∀g,G g≠[]→g<W.heap.size∧∃cs T fr,W.heap[g]?=some (.cells cs T fr)∧cs.size=(G g).length∧∀j,j<(G g).length→∃v,cs[j]?=some v∧zbn W (zkd W) v ((G g).getD j .nilf)):
  zik G W (zkd W):=by
 refine⟨fun g j hj=>?_,fun g hg=>?_⟩
 ·obtain⟨h1,cs,T,fr,h2,_,h3⟩:=h g (by intro e;rw[e]at hj;simp at hj)
  obtain⟨v,h4,h5⟩:=h3 j hj
  exact⟨h1,v,by rw[zg9 h2];exact h4,h5⟩
 ·obtain⟨h1,cs,T,fr,h2,h3,_⟩:=h g hg
  exact⟨h1,by rw[zg9 h2];exact Array.getElem?_eq_none (by omega)⟩
theorem zia {P:Program}{G:Nat→List FD}{f:FuncId}{xs:List FD}{vs:List Value}{W:World}(h:zav P G f (xs.map .fz) (hpL []) 0 (fun d _ _=>d= .fz (.b true)))
  (hG:zik G W (zkd W))
  (hl:vs.length=xs.length)(hv:∀j,j<xs.length→zbn W (zkd W) (vs.getD j undef) (xs.getD j .nilf)):
  Calls P f vs.toArray W fun e W'=>e= .returned (.bool true)∧zBj W W':=by
 have hok:OkW G W (fun _=>⟨0,0,false⟩) (zkd W) (Ub 0) (hpL []):=⟨fun _ _ h=>h,(fun _ _ h=>by cases h),(fun _ _ _ _ h=>by cases h),hG⟩
 have hvs:zap W (fun _=>⟨0,0,false⟩) (zkd W) (Ub 0) (xs.map .fz) vs:=by
  rw[zap.iff]
  refine⟨by simp[hl],fun j hj=>?_⟩
  have hj':j<xs.length:=by simpa using hj
  rw[zb0 _ _ hj']
  simpa only[zak]using hv j hj'
 refine(h.2 W _ _ vs hok hvs).mono fun e W' he=>?_
 obtain⟨v,d,H',n',L',F',rfl,rfl,_,e4,e5⟩:=he
 simp only[zak]at e4
 rw[e4.b_inv]
 exact⟨rfl,fun b hb=>e5.keep b hb (by rintro⟨_,_,hh,_⟩;cases hh),e5.size,e5.os,e5.tape,e5.output⟩
end Go.Abs
namespace Go.Abs
open Go
def hpX:List (Id×Option O)→zas→zas
 |[],f,j=>f j
 |(i,o)::l,f,j=>if j=i then o else hpX l f j
@[go_sem] theorem zHm {l:List (Id×Option O)}{f:zas}{i:Id}{o:Option O}:zaM (hpX l f) i o=hpX ((i,o)::l) f:=by
 funext j;simp only[zaM,hpX]
@[go_sem] theorem zFJ {l:List (Id×Option O)}{f:zas}{i j:Id}{o:Option O}:hpX ((i,o)::l) f j=if j=i then o else hpX l f j:=rfl
@[go_sem] theorem zHl {f:zas}{j:Id}:hpX [] f j=f j:=rfl
theorem zfW.getX {H f:zas}(hx:∀id o,f id=some o→H id=some o):∀{l:List (Id×Option O)},zfW H l→∀id o,hpX l f id=some o→H id=some o
 |[],_,id,o,h=>hx id o h
 |(i,o')::l,h,id,o,e=>by
  simp only[hpX]at e
  split at e
  ·rename_i e';subst e';rw[h.1];exact e
  ·exact zfW.getX hx h.2 id o e
theorem zb9 {G:Nat→List FD}{N:Nat}{st:St}{l:List (Nat×D)}{H':zas}{n:Nat}(hf:zpN st.fr l)(hh:∀id o,H' id=some o→st.H id=some o)(hn:st.n≤n):zgh G N st ⟨frL l,H',n⟩:=by
 intro a w L F h
 have hu:∀id,Ub st.n id→Ub n id:=fun id hid=>Nat.lt_of_lt_of_le hid hn
 have e:Ext w L F (Ub st.n) w L F (Ub n):=⟨hu,fun _ _=>rfl,fun _ _ h=>h,fun _ _ _=>rfl,Nat.le_refl _,fun b cs T fr _ h=>⟨cs,T,fr,h,Nat.le_refl _⟩⟩
 refine⟨L,F,⟨⟨h.ok.fb,fun id o ho=>?_,fun id id' o o' h1 h2=>h.ok.inj id id' o o' (hh _ _ h1) (hh _ _ h2),h.ok.glob⟩,h.size,fun t=>?_,h.nd⟩,hu,fun _ _=>rfl,fun _ _ h=>h,Nat.le_refl _,fun _ _ _=>rfl,fun _ _ _ _=>rfl,
  fun b cs T fr _ h=>⟨cs,T,fr,h,Nat.le_refl _⟩,fun _ _ h=> .inl h,fun b k hb=> .inr ?_,rfl,rfl,rfl,Nat.le_refl _⟩
 ·obtain⟨h1,h2⟩:=h.ok.live id o (hh _ _ ho)
  exact⟨hu _ h1,h2.ext e h1 fun hv=>⟨rfl,(zaC h2 hv).1⟩⟩
 ·rcases hf.get t with h1|h1
  ·simp only;rw[h1];exact(h.fr t).ext e
  ·simp only;rw[h1];simp[zak]
 ·obtain⟨id,o,h1,h2,h3,h4⟩:=hb
  exact⟨id,o,hh _ _ h1,h2,h3,h4⟩
theorem zaJ {G:Nat→List FD}{N:Nat}{st:St}{l:List (Nat×D)}{hl:List (Id×Option O)}{f:zas}{n:Nat}(hf:zpN st.fr l)(hh:zfW st.H hl)(hx:∀id o,f id=some o→st.H id=some o)(hn:st.n≤n):zgh G N st ⟨frL l,hpX hl f,n⟩:=
 zb9 hf (zfW.getX hx hh) hn
end Go.Abs
namespace Go.Abs
open Go
structure Fam {α:Type}[Enc α](tag n:Nat)(B:List (List α))(gs:Nat→Nat)(f:zas):Prop where
 get:∀c (h:c<B.length),f (tag,gs c)=some ⟨zag (B[c].map enc),false,false⟩
 lt:∀c,c<B.length→gs c<n
 inj:∀c d,c<B.length→d<B.length→gs c=gs d→c=d
 tg:∀id o,f id=some o→id.1=tag
section
variable {α:Type} [Enc α] {tag n n':Nat} {B:List (List α)} {gs:Nat→Nat} {f:zas}
theorem Fam.nil:Fam (α:=α) tag n [] gs H0:=
 ⟨fun _ h=>absurd h (by simp),fun _ h=>absurd h (by simp),fun _ _ h=>absurd h (by simp),fun _ _ h=>by cases h⟩
theorem Fam.mono (h:Fam tag n B gs f)(hn:n≤n'):Fam tag n' B gs f:=⟨h.get,fun c hc=>Nat.lt_of_lt_of_le (h.lt c hc) hn,h.inj,h.tg⟩
theorem zmV {a b c:Nat}(h:b≠c):¬((a,b):Id)=(a,c):=fun e=>h (Prod.mk.inj e).2
theorem Fam.set (h:Fam tag n B gs f){c:Nat}(hc:c<B.length){xs:List α}(hn:n≤n'):Fam tag (n'+1) (B.set c xs) (fun d=>if d=c then n' else gs d) (hpX [((tag,n'),some ⟨zag (xs.map enc),false,false⟩),((tag,gs c),none)] f):=by
 refine⟨fun d hd=>?_,fun d hd=>?_,fun d e hd he=>?_,fun id o hh=>?_⟩
 ·have hd':d<B.length:=by simpa using hd
  simp only[hpX]
  by_cases e:d=c
  ·subst e;simp
  ·rw[if_neg e]
   have h1:=h.lt d hd'
   rw[if_neg (zmV (by omega)),if_neg (zmV fun e2=>e (h.inj _ _ hd' hc e2)),h.get d hd']
   rw[List.getElem_set_ne fun e2=>e e2.symm]
 ·have hd':d<B.length:=by simpa using hd
  have h1:=h.lt d hd'
  split<;>omega
 ·have hd':d<B.length:=by simpa using hd
  have he':e<B.length:=by simpa using he
  have h1:=h.lt d hd'
  have h2:=h.lt e he'
  split<;>split
  ·omega
  ·omega
  ·omega
  ·exact h.inj d e hd' he'
 ·simp only[hpX]at hh
  split at hh
  ·rename_i e;rw[e]
  ·split at hh
   ·cases hh
   ·exact h.tg id o hh
theorem Fam.push (h:Fam tag n B gs f){xs:List α}(hn:n≤n'):Fam tag (n'+1) (B++[xs]) (fun d=>if d=B.length then n' else gs d) (hpX [((tag,n'),some ⟨zag (xs.map enc),false,false⟩)] f):=by
 refine⟨fun d hd=>?_,fun d hd=>?_,fun d e hd he=>?_,fun id o hh=>?_⟩
 ·simp only[List.length_append,List.length_singleton]at hd
  simp only[hpX]
  by_cases e:d=B.length
  ·subst e;simp
  ·have hd':d<B.length:=by omega
   have h1:=h.lt d hd'
   rw[if_neg e,if_neg (zmV (by omega)),h.get d hd',List.getElem_append_left hd']
 ·simp only[List.length_append,List.length_singleton]at hd
  split
  ·omega
  ·have h1:=h.lt d (by omega)
   omega
 ·simp only[List.length_append,List.length_singleton]at hd he
  split<;>split
  ·omega
  ·have h2:=h.lt e (by omega);omega
  ·have h1:=h.lt d (by omega);omega
  ·exact h.inj d e (by omega) (by omega)
 ·simp only[hpX]at hh
  split at hh
  ·rename_i e;rw[e]
  ·exact h.tg id o hh
end
section
variable {α:Type} {tag n:Nat} {B:List (List α)} {gs:Nat→Nat}
end
section
variable {α:Type} [Enc α] {tag n:Nat} {B:List (List α)} {gs:Nat→Nat} {f:zas}
end
theorem zpV {n n':Nat}{pre:Id→Id}{vn:Id→Bool}{z:Id→Option (List FD)}{H:zas}{ds ds':List D}:∀(l:List D),(∀d∈l,∃x,d= .fz x)→(Drs n n' pre vn z H (l++ds) (l++ds')=Drs n n' pre vn z H ds ds')
 |[],_=>rfl
 |d::l,h=>by
  obtain⟨x,rfl⟩:=h d (by simp)
  rw[List.cons_append,List.cons_append,zzC,zGH,zpV l fun d hd=>h d (by simp[hd])]
  simp
@[go_sem] theorem zzD {n n':Nat}{pre:Id→Id}{vn:Id→Bool}{z:Id→Option (List FD)}{H:zas}{ds ds':List D}{xs:List FD}:Drs n n' pre vn z H (zag xs++ds) (zag xs++ds')=Drs n n' pre vn z H ds ds':=by
 refine zpV _ fun d hd=>?_
 simp only[zag,List.mem_flatMap,List.mem_map]at hd
 obtain⟨_,_,x,_,rfl⟩:=hd
 exact⟨x,rfl⟩
@[go_sem low] theorem zF4 {n:Int}:inK .i64 n=(-9223372036854775808≤n∧n≤9223372036854775807):=by
 simp only[inK,zmM,zmL]
end Go.Abs
