import Derived.Deep.Slices
import Derived.ChangeArms
import Derived.Test.YtnijhilfchekkaaGreatDoorA2
set_option linter.unusedSimpArgs false
namespace Go.Abs
open Go
section
variable {P:Program} {G:Nat→List FD} {T:Tbl}
theorem lj {f:FuncId}{args:List D}{H:bR}{n:Nat}{Q R:D→bR→Nat→Prop}(h:cS P G f args H n Q)
  (hq:∀d H n,Q d H n→∃d' H' n',gH G 1 ⟨frL [(0,d)],H,n⟩ ⟨frL [(0,d')],H',n'⟩∧R d' H' n'):cS P G f args H n R:=by
 refine⟨h.1,fun w L F vs hok hvs=>(h.2 w L F vs hok hvs).mono fun e w' he=>?_⟩;obtain⟨v,d,H1,n1,L1,F1,e1,e2,e3,e4,e5⟩:=he;obtain⟨d',H',n',hW,hR⟩:=hq d H1 n1 e2;have hrel:Rel G 1 ⟨frL [(0,d)],H1,n1⟩ {tmps:= #[v],defers:=[]} w' L1 F1:=by
  refine⟨e3,rfl,fun t=>?_,rfl⟩;simp only[frL];by_cases ht:t=0
  ·simp_all
  ·simp_all[bw]
 obtain⟨L2,F2,h1,h2⟩:=hW _ w' L1 F1 hrel;have:=h1.fr 0;simp only[frL,cJ]at this;exact⟨v,d',H',n',L2,F2,e1,hR,h1.ok,aq,dH.trans e5 h2⟩
def wq {α ρ σ:Type}[Enc α][Enc ρ][Enc σ](f:α→ρ×σ)(pre:α→Prop):List FD→Option (D×Prop)
 |[x]=>some (.tup [.fz (enc (f (dec x)).1),.fz (enc (f (dec x)).2)],x=enc (dec (α:=α) x)∧pre (dec x))
 |_=>none
@[go_sem] theorem zPk {α ρ σ:Type}[Enc α][Enc ρ][Enc σ]{f:α→ρ×σ}{pre:α→Prop}{x:FD}:wq f pre [x]=some (.tup [.fz (enc (f (dec x)).1),.fz (enc (f (dec x)).2)],x=enc (dec (α:=α) x)∧pre (dec x)):=rfl
theorem N' {α ρ σ:Type}[Enc α][Enc ρ][Enc σ]{f:FuncId}{g:α→ρ×σ}{pre:α→Prop}(hc:cW P f)(hT:b9 P G T)
  (h:∀a,pre a→(enc a).Wf→cS P G f [.fz (enc a)] (hpL []) 0 (fun d _ _=>D.val d=some (.tup [.fz (enc (g a).1),.fz (enc (g a).2)]))):b9 P G (T.add f (wq g pre)):=by
 refine pS hT fun xs r c hx hcc=>?_;unfold wq at hx;grind[qx,ky]
end
@[go_sem] theorem zR9 {n n':Nat}{pre:Id→Id}{vn:Id→Bool}{z:Id→Option (List FD)}{H:bR}{ds ds':List D}:Dr n n' pre vn z H (.tup ds) (.tup ds')=Drs n n' pre vn z H ds ds':=by simp_all[Dr]
section
variable {P:Program} {G:Nat→List FD} {T:Tbl}
theorem Xl {f:FuncId}{args:List D}{H:bR}{n:Nat}{Q:D→bR→Nat→Prop}(h:cS P (fun _=>[]) f args H n Q):cS P G f args H n Q:=by refine⟨h.1,fun w L F vs hok hvs=>(h.2 w L F vs ⟨hok.fb,hok.live,hok.inj,⟨ap,ap⟩⟩ hvs).mono fun e w' he=>?_⟩;obtain⟨v,d,H',n',L',F',e1,e2,e3,e4,e5⟩:=he;have hx:=e5.ext (G:=fun _=>[]) ⟨hok.fb,hok.live,hok.inj,⟨ap,ap⟩⟩;exact⟨v,d,H',n',L',F',e1,e2,⟨e3.fb,e3.live,e3.inj,rH hx.f hx.fk hok.glob⟩,e4,e5⟩
theorem s9 (h:b9 P (fun _=>[]) T):b9 P G T:=fun f t xs r c ht hx hc=>Xl (h f t xs r c ht hx hc)
@[go_sem] theorem zGN {x:FD}{xs:List FD}:AE (x::xs)= .rp (x::xs):=rfl
@[go_sem] theorem zH2:AE []= .junk:=rfl
end
open Go Go.Deep
def l5 (w:World):Nat→Nat→Prop:=fun b _=>b<w.heap.size
structure xq (blk:(H:Type)→DataW H→Nat):Prop where
 s:∀H b,b.length≤blk H (.lit (.string b))
 sl:∀H es sp,es.length≤blk H (.slice es sp)
 el:∀H es sp d,d∈es→blk H d≤blk H (.slice es sp)
 ag:∀H ps d,d∈ps→blk H d≤blk H (.agg ps)
def Rd (blk:(H:Type)→DataW H→Nat)(P:Program)(t:TypeId)(α:Type)[Enc α]:Prop:=
 ∀{H:Type} {en:TypeId×Value→H} {w:World} {base:Nat} {spare:Nat→Bool} {held:Bool} {fuel:Nat} {cs:List Value} {x:DataW H×List MemPlace},
  DataW.trod en P w base spare held fuel t cs=some x→blk H x.1≤1048576→∃a:α,cs.length=(enc a).cells.length∧∀j,j<cs.length→dD w (l5 w) (cs.getD j undef) ((enc a).cells.getD j .nilf)
theorem Ex {blk:(H:Type)→DataW H→Nat}(hB:xq blk){P:Program}{t:TypeId}(ht:P.underlying t=some .string):Rd blk P t Str:=by
 intro H en w base spare held fuel cs x h hb;obtain⟨s,rfl,rfl,_⟩:=DataW.trod_string ht h;have hs:s.size≤1048576:=by
  have e:s.size=s.data.toList.length:=by rw[cG];rfl
  rw[e];exact bz (hB.s _ _) hb
 refine⟨⟨s.data.toList⟩,rfl,fun j hj=>?_⟩;obtain rfl:j=0:=ap
 exact .s s (by grind[dt])
theorem IL {α:Type}{p:Nat→α→Prop}:∀(n:Nat),(∀i,i<n→∃a,p i a)→∃l:List α,l.length=n∧∀i (h:i<l.length),p i l[i]
 |0,_=>⟨[],rfl,ap⟩
 |n+1,h=>by obtain⟨l,h1,h2⟩:=IL n fun i hi=>h i ae;obtain⟨a,ha⟩:=h n ae;refine⟨l++[a],by simp[h1],fun i hi=>?_⟩;grind
theorem cells?_get {w:World}{base:Nat}{a:Addr}:∀{n:Nat} {cs:List Value},w.cells? base a n=some cs→cs.length=n∧∀j,j<n→w.cell? (a.add j)=some (cs.getD j undef):=by
 intro n cs h;unfold World.cells? at h;split at h
 ·have key:∀(l:List Nat) (cs:List Value),l.mapM (fun i=>w.cell? (a.add i))=some cs→cs.length=l.length∧∀j (hj:j<l.length),w.cell? (a.add l[j])=some (cs.getD j undef):=by
   intro l;induction l with
   |nil=>simp
   |cons i l ih=>intro cs h;simp only[List.mapM_cons,Option.bind_eq_bind,fP,Option.pure_def,aL]at h;grind
  grind
 grind
theorem cell?_some {w:World}{a:Addr}{v:Value}(h:w.cell? a=some v):a.spot=none∧∃cs T fr,w.heap[a.block]?=some (.cells cs T fr)∧cs[a.off]?=some v:=by
 unfold World.cell? at h;split at h
 all_goals simp_all
structure Tu (W W':World):Prop where
 heap:∀b,b<W.heap.size→W'.heap[b]?=W.heap[b]?
 size:W.heap.size≤W'.heap.size
 os:W'.os=W.os
 tape:W'.tape=W.tape
 output:W'.output=W.output
theorem Xm {G:Nat→List FD}{W:World}(h:∀g,G g≠[]→g<W.heap.size∧∃cs T fr,W.heap[g]?=some (.cells cs T fr)∧cs.size=(G g).length∧∀j,j<(G g).length→∃v,cs[j]?=some v∧dD W (l5 W) v ((G g).getD j .nilf)):
  vC G W (l5 W):=by
 refine⟨fun g j hj=>?_,fun g hg=>?_⟩
 ·obtain⟨h1,cs,T,fr,h2,_,h3⟩:=h g ap;obtain⟨v,h4,h5⟩:=h3 j hj;exact⟨h1,v,by rw[nA h2];exact h4,h5⟩
 ·obtain⟨h1,cs,T,fr,h2,h3,_⟩:=h g hg;exact⟨h1,by rw[nA h2];grind⟩
theorem VS {P:Program}{G:Nat→List FD}{f:FuncId}{xs:List FD}{vs:List Value}{W:World}(h:cS P G f (xs.map .fz) (hpL []) 0 (fun d _ _=>d= .fz (.b true)))
  (hG:vC G W (l5 W))
  (hl:vs.length=xs.length)(hv:∀j,j<xs.length→dD W (l5 W) (vs.getD j undef) (xs.getD j .nilf)):
  Calls P f vs.toArray W fun e W'=>e= .returned (.bool true)∧Tu W W':=by
 have hok:OkW G W (fun _=>⟨0,0,false⟩) (l5 W) (Ub 0) (hpL []):=⟨fun _ _ h=>h,(fun _ _ h=>by cases h),(fun _ _ _ _ h=>by cases h),hG⟩;have hvs:cA W (fun _=>⟨0,0,false⟩) (l5 W) (Ub 0) (xs.map .fz) vs:=by
  rw[cA.iff];refine⟨by simp[hl],fun j hj=>?_⟩;have hj':j<xs.length:=by simpa using hj
  rw[yo _ _ hj'];simpa only[bw]using hv j hj'
 refine(h.2 W _ _ vs hok hvs).mono fun e W' he=>?_;obtain⟨v,d,H',n',L',F',rfl,rfl,_,e4,e5⟩:=he;simp only[bw]at e4;rw[e4.b_inv];exact⟨rfl,fun b hb=>e5.keep b hb (by rintro⟨_,_,hh,_⟩;cases hh),e5.size,e5.os,e5.tape,e5.output⟩
def hpX:List (Id×Option O)→bR→bR
 |[],f,j=>f j
 |(i,o)::l,f,j=>if j=i then o else hpX l f j
@[go_sem] theorem AM {l:List (Id×Option O)}{f:bR}{i:Id}{o:Option O}:cp (hpX l f) i o=hpX ((i,o)::l) f:=by funext j;simp only[cp,hpX]
@[go_sem] theorem zQD {l:List (Id×Option O)}{f:bR}{i j:Id}{o:Option O}:hpX ((i,o)::l) f j=if j=i then o else hpX l f j:=rfl
@[go_sem] theorem zUw {f:bR}{j:Id}:hpX [] f j=f j:=rfl
theorem iO.getX {H f:bR}(hx:∀id o,f id=some o→H id=some o):∀{l:List (Id×Option O)},iO H l→∀id o,hpX l f id=some o→H id=some o
 |[],_,id,o,h=>hx id o h
 |(i,o')::l,h,id,o,e=>by
  simp only[hpX]at e;split at e
  ·rename_i e';subst e';rw[h.1];exact e
  ·exact iO.getX hx h.2 id o e
theorem oo {G:Nat→List FD}{N:Nat}{st:St}{l:List (Nat×D)}{H':bR}{n:Nat}(hf:pM st.fr l)(hh:∀id o,H' id=some o→st.H id=some o)(hn:st.n≤n):gH G N st ⟨frL l,H',n⟩:=by
 intro a w L F h;have hu:∀id,Ub st.n id→Ub n id:=fun id hid=>cO hid hn;have e:Ext w L F (Ub st.n) w L F (Ub n):=⟨hu,fun _ _=>rfl,fun _ _ h=>h,fun _ _ _=>rfl,aI _,ap⟩
 refine⟨L,F,⟨⟨h.ok.fb,fun id o ho=>?_,fun id id' o o' h1 h2=>h.ok.inj id id' o o' (hh _ _ h1) (hh _ _ h2),h.ok.glob⟩,h.size,fun t=>?_,h.nd⟩,hu,fun _ _=>rfl,fun _ _ h=>h,aI _,fun _ _ _=>rfl,fun _ _ _ _=>rfl,
  ap,ap,fun b k hb=> .inr ?_,rfl,rfl,rfl,aI _⟩
 ·obtain⟨h1,h2⟩:=h.ok.live id o (hh _ _ ho);exact⟨hu _ h1,h2.ext e h1 (by grind[iL])⟩
 ·rcases hf.get t with h1|h1
  ·simp only;rw[h1];exact(h.fr t).ext e
  simp_all[bw]
 ·obtain⟨id,o,h1,h2,h3,h4⟩:=hb;exact⟨id,o,hh _ _ h1,h2,h3,h4⟩
theorem gT {G:Nat→List FD}{N:Nat}{st:St}{l:List (Nat×D)}{hl:List (Id×Option O)}{f:bR}{n:Nat}(hf:pM st.fr l)(hh:iO st.H hl)(hx:∀id o,f id=some o→st.H id=some o)(hn:st.n≤n):gH G N st ⟨frL l,hpX hl f,n⟩:=
 oo hf (iO.getX hx hh) hn
structure Fam {α:Type}[Enc α](tag n:Nat)(B:List (List α))(gs:Nat→Nat)(f:bR):Prop where
 get:∀c (h:c<B.length),f (tag,gs c)=some ⟨bA (B[c].map enc),false,false⟩
 lt:∀c,c<B.length→gs c<n
 inj:∀c d,c<B.length→d<B.length→gs c=gs d→c=d
 tg:∀id o,f id=some o→id.1=tag
section
variable {α:Type} [Enc α] {tag n n':Nat} {B:List (List α)} {gs:Nat→Nat} {f:bR}
theorem Fam.nil:Fam (α:=α) tag n [] gs H0:=
 ⟨ap,ap,ap,fun _ _ h=>by cases h⟩
theorem Fam.mono (h:Fam tag n B gs f)(hn:n≤n'):Fam tag n' B gs f:=⟨h.get,fun c hc=>cO (h.lt c hc) hn,h.inj,h.tg⟩
theorem DA {a b c:Nat}(h:b≠c):¬((a,b):Id)=(a,c):=ap
theorem Fam.set (h:Fam tag n B gs f){c:Nat}(hc:c<B.length){xs:List α}(hn:n≤n'):Fam tag (n'+1) (B.set c xs) (fun d=>if d=c then n' else gs d) (hpX [((tag,n'),some ⟨bA (xs.map enc),false,false⟩),((tag,gs c),none)] f):=by
 refine⟨fun d hd=>?_,fun d hd=>?_,fun d e hd he=>?_,fun id o hh=>?_⟩
 ·have hd':d<B.length:=by simpa using hd
  simp only[hpX];by_cases e:d=c
  ·grind
  ·rw[az e];have h1:=h.lt d hd';rw[az (DA ae),az (DA fun e2=>e (h.inj _ _ hd' hc e2)),h.get d hd'];grind
 ·have hd':d<B.length:=by simpa using hd
  have h1:=h.lt d hd';grind
 ·have hd':d<B.length:=by simpa using hd
  have he':e<B.length:=by simpa using he
  have h1:=h.lt d hd';have h2:=h.lt e he';split<;>split
  ·omega
  ·omega
  ·omega
  ·exact h.inj d e hd' he'
 ·simp only[hpX]at hh;split at hh
  ·grind
  ·split at hh
   ·cases hh
   ·exact h.tg id o hh
theorem Fam.push (h:Fam tag n B gs f){xs:List α}(hn:n≤n'):Fam tag (n'+1) (B++[xs]) (fun d=>if d=B.length then n' else gs d) (hpX [((tag,n'),some ⟨bA (xs.map enc),false,false⟩)] f):=by
 refine⟨fun d hd=>?_,fun d hd=>?_,fun d e hd he=>?_,fun id o hh=>?_⟩
 ·simp only[aD,bU]at hd;simp only[hpX];by_cases e:d=B.length
  ·grind
  ·have hd':d<B.length:=ae
   have h1:=h.lt d hd';rw[az e,az (DA ae),h.get d hd',c5 hd']
 ·simp only[aD,bU]at hd;split
  ·omega
  ·have h1:=h.lt d ae;omega
 ·simp only[aD,bU]at hd he;split<;>split
  ·omega
  ·have h2:=h.lt e ae;omega
  ·have h1:=h.lt d ae;omega
  ·exact h.inj d e ae ae
 ·simp only[hpX]at hh;split at hh
  ·grind
  ·exact h.tg id o hh
end
section
variable {α:Type} {tag n:Nat} {B:List (List α)} {gs:Nat→Nat}
end
section
variable {α:Type} [Enc α] {tag n:Nat} {B:List (List α)} {gs:Nat→Nat} {f:bR}
end
theorem M' {n n':Nat}{pre:Id→Id}{vn:Id→Bool}{z:Id→Option (List FD)}{H:bR}{ds ds':List D}:∀(l:List D),(∀d∈l,∃x,d= .fz x)→(Drs n n' pre vn z H (l++ds) (l++ds')=Drs n n' pre vn z H ds ds')
 |[],_=>rfl
 |d::l,h=>by obtain⟨x,rfl⟩:=h d ak;grind[SV,Hq,M' l fun d hd=>h d (by simp[hd])]
@[go_sem] theorem zJC {n n':Nat}{pre:Id→Id}{vn:Id→Bool}{z:Id→Option (List FD)}{H:bR}{ds ds':List D}{xs:List FD}:Drs n n' pre vn z H (bA xs++ds) (bA xs++ds')=Drs n n' pre vn z H ds ds':=by grind[M',bA]
@[go_sem low] theorem zRs {n:Int}:inK .i64 n=(-9223372036854775808≤n∧n≤9223372036854775807):=by simp only[inK,DO,DN]
end Go.Abs
