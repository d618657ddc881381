import Derived.Test.YtnijhilfchekkaaGreatDoorA1
set_option linter.unusedSimpArgs false
namespace Go.Abs
open Go
def W (P:Program)(G:Nat→List FD)(N:Nat)(c:Code)(Q:Exit→St→Prop)(st:St):Prop:=
 ∀(a:Act) (w:World) (L:Loc) (F:Nat→Nat→Prop),Rel G N st a w L F→c.wp P (fun e a' w'=>Sat G N st w L F (Q e) a' w') a w
section
variable {P:Program} {G:Nat→List FD} {N tag0:Nat} {st:St} {a:Act} {w:World} {L:Loc} {F:Nat→Nat→Prop} {K:St→Prop} {Q:Exit→St→Prop}
theorem Sat.mono {st0:St}{w0 L0 F0}{K K':St→Prop}{a w}(h:Sat G N st0 w0 L0 F0 K a w)(hk:∀st,K st→K' st):Sat G N st0 w0 L0 F0 K' a w:=by obtain⟨st,L,F,h1,h2,h3⟩:=h;exact⟨st,L,F,hk _ h1,h2,h3⟩
theorem Sat.trans {st0 st1:St}{w0 L0 F0 w1 L1 F1}{a w}(hs:oY st0 w0 L0 F0 st1 w1 L1 F1)(h:Sat G N st1 w1 L1 F1 K a w):Sat G N st0 w0 L0 F0 K a w:=by obtain⟨st,L,F,h1,h2,h3⟩:=h;exact⟨st,L,F,h1,h2,dH.trans hs h3⟩
theorem OS {ops:Array Oper}{o:Oper}{j:Nat}{want:Bool}{t:Tmp}{x:Bool}(hg:o.guard=some (j,want))(ht:(ops[j]?).bind (·.dst)=some t)(hx:st.fr t= .fz (.b x))(h:Rel G N st a w L F)(htN:t<N):
  Region.wanted o (yielded ops a.tmps)=(x==want):=by
 have h1:=h.fr t;rw[hx]at h1;have h2:=vb h1;have hlt:t<a.tmps.size:=by rw[h.size];exact htN
 simp_all[Region.wanted,yielded]
theorem TD (h:Rel G N st a w L F){t:Tmp}{x:Bool}(hx:st.fr t= .fz (.b x)):t<N:=by
 rcases aA t N with h'|h'
 ·exact h'
 ·have h1:=h.fr t;rw[hx]at h1;have h2:=vb h1;rw[cu,fX (by rw[h.size];exact h')]at h2;simp[undef]at h2
theorem EO {c:Code}{Q':Exit→St→Prop}(h:W P G N c Q st)(hq:∀e st,Q e st→Q' e st):W P G N c Q' st:=
 fun a w L F hr=>jS (h a w L F hr) fun e _ _ hs=>hs.mono (hq e)
theorem EP (h:Q .normal st):W P G N .skip Q st:=fun _ _ L F hr=>wp_skip ⟨st,L,F,h,hr,dH.refl _ _ _ _ _⟩
theorem EM {id:Nat}(h:Q (.exit id) st):W P G N (.exit id) Q st:=fun _ _ L F hr=>wp_exit ⟨st,L,F,h,hr,dH.refl _ _ _ _ _⟩
theorem Fw (h:Q .ret st):W P G N .ret Q st:=fun _ _ L F hr=>wp_ret ⟨st,L,F,h,hr,dH.refl _ _ _ _ _⟩
def Vk (P:Program)(G:Nat→List FD)(N:Nat)(b:Code)(Q:Exit→St→Prop):Exit→St→Prop
 | .normal,st=>W P G N b Q st
 |e,st=>Q e st
theorem Fx {c b:Code}(h:W P G N c (Vk P G N b Q) st):W P G N (.seq c b) Q st:=by
 intro a w L F hr;refine wp_seq (jS (h a w L F hr) fun e a1 w1 hs=>?_);cases e with
 |normal=>obtain⟨st1,L1,F1,h1,h2,h3⟩:=hs;exact jS (h1 a1 w1 L1 F1 h2) fun e _ _ hs=>hs.trans h3
 |_=>exact hs
theorem EL {c:Operand}{x y:Code}{t:Bool}(hc:st.ev G c= .fz (.b t))(h1:t=true→W P G N x Q st)(h2:t=false→W P G N y Q st):W P G N (.cond c x y) Q st:=by intro a w L F hr;have:=hr.ev c;rw[hc]at this;exact wp_cond_split (vb this) (fun h=>h1 h a w L F hr) (fun h=>h2 h a w L F hr)
def tJ (id:Nat)(Q:Exit→St→Prop):Exit→St→Prop
 | .exit i,st=>if i=id then Q .normal st else Q (.exit i) st
 |e,st=>Q e st
theorem Nr {id:Nat}{c:Code}(h:W P G N c (tJ id Q) st):W P G N (.block id c) Q st:=by
 intro a w L F hr;refine wp_block (jS (h a w L F hr) fun e a1 w1 hs=>?_);cases e with
 |exit i=>
  by_cases e:i=id
  ·simp only[Exit.inBlock,aF e];exact hs.mono (by simp_all[tJ])
  ·simp only[Exit.inBlock,az e];exact hs.mono (by simp_all[tJ])
 |_=>exact hs
def gH (G:Nat→List FD)(N:Nat)(st st':St):Prop:=
 ∀a w L F,Rel G N st a w L F→∃L' F',Rel G N st' a w L' F'∧oY st w L F st' w L' F'
theorem gH.refl (st:St):gH G N st st:=fun _ _ L F h=>⟨L,F,h,dH.refl _ _ _ _ _⟩
theorem gH.trans {s1 s2 s3:St}(h1:gH G N s1 s2)(h2:gH G N s2 s3):gH G N s1 s3:=fun a w L F h=>
 let⟨_,_,h3,h4⟩:=h1 a w L F h;let⟨L2,F2,h5,h6⟩:=h2 a w _ _ h3
 ⟨L2,F2,h5,dH.trans h4 h6⟩
theorem Sj {c:Code}{st':St}(hw:gH G N st st')(h:W P G N c Q st'):W P G N c Q st:=by intro a w L F hr;obtain⟨L1,F1,h1,h2⟩:=hw a w L F hr;exact jS (h a w L1 F1 h1) fun e _ _ hs=>hs.trans h2
def Fy (G:Nat→List FD)(N:Nat){ι:Type}(I:ι→St)(μ:ι→Nat)(i:ι)(Q:Exit→St→Prop):Exit→St→Prop
 | .normal,st=>∃i',μ i'<μ i∧gH G N st (I i')
 |e,st=>Q e st
theorem EN {c:Code}{ι:Type}(I:ι→St)(μ:ι→Nat)(i:ι)(h0:gH G N st (I i))(round:∀i,W P G N c (Fy G N I μ i Q) (I i)):W P G N (.loop c) Q st:=by
 refine Sj h0 ?_;clear h0;intro a w L F hr b k cs;have key:∀n i a w L F,μ i=n→Rel G N (I i) a w L F→
   ∃e a' w',Sat G N (I i) w L F (Q e) a' w'∧Arrives P (lone (b.at a (.code c:: .inLoop c::k)) cs w) b k cs e a' w':=by
  intro n;induction n using Nat.strongRecOn with
  |_ n ih=>
   intro i a w L F hn hI;obtain⟨e,a₁,w₁,hq,harr⟩:=round i a w L F hI b (.inLoop c::k) cs;cases e with
   |normal=>obtain⟨st1,L1,F1,⟨i',hlt,hw⟩,h2,h3⟩:=hq;obtain⟨L2,F2,h4,h5⟩:=hw _ _ _ _ h2;obtain⟨e₂,a₂,w₂,hq₂,harr₂⟩:=ih (μ i') (hn▸hlt) i' a₁ w₁ L2 F2 rfl h4;exact⟨e₂,a₂,w₂,(hq₂.trans h5).trans h3,.of_steps (Steps.trans harr (.one step_inLoop)) harr₂⟩
   |exit id=>exact⟨_,a₁,w₁,hq,.pass (x:= .inLoop c) rfl ap harr⟩
   |goto l=>exact⟨_,a₁,w₁,hq,.pass (x:= .inLoop c) rfl ap harr⟩
   |ret=>exact⟨_,a₁,w₁,hq,.pass (x:= .inLoop c) rfl ap harr⟩
   |panic ch=>exact⟨_,a₁,w₁,hq,.pass (x:= .inLoop c) rfl ap harr⟩
   |outgrown=>exact⟨_,a₁,w₁,hq,.pass (x:= .inLoop c) rfl ap harr⟩
 obtain⟨e,a',w',hq,harr⟩:=key _ i a w L F rfl hr;exact⟨e,a',w',hq,.of_steps (.one step_loop) harr⟩
def sN (P:Program)(st:St):ResultVar→Option (D×Prop)
 | .tmp t=>some (st.fr t,True)
 | .cell t ty=>pZ P st.H ty (st.fr t)
def mY (P:Program)(st:St):List ResultVar→Option (List D×Prop)
 |[]=>some ([],True)
 |r::rs=>
  match sN P st r,mY P st rs with
  |some (d,c),some (ds,cs)=>some (d::ds,c∧cs)
  |_,_=>none
def one (ds:List D):D:=
 match ds with
 |[d]=>d
 |ds=> .tup ds
def wo (tmps:Array Value):ResultVar→Sem Value
 | .tmp t=>pure (tmps.getD t undef)
 | .cell x t=>do loadVar t (←asAddr (tmps.getD x undef))
theorem Yu (fn:Func)(tmps:Array Value):results fn tmps=(do let vs ←fn.results.mapM (wo tmps);pure (if h:vs.size=1 then vs[0]else .tuple vs)):=by rfl
theorem Qg (h:Rel G N st a w L F){r:ResultVar}{d c}(hr:sN P st r=some (d,c))(hc:c):
  ∃v,(wo a.tmps r).run P w= .ok v w∧bw w L F (Ub st.n) d v:=by
 cases r with
 |tmp t=>simp only[sN,aL,aY]at hr;obtain⟨rfl,_⟩:=hr;exact⟨_,rfl,h.fr t⟩
 |cell t ty=>
  simp only[sN]at hr;obtain⟨v,h1,h2⟩:=JV hr hc h.ok (h.fr t);refine⟨v,?_,h2⟩;have hp:∃p,a.tmps.getD t undef= .pointer (some p):=by
   have h3:=h.fr t;unfold pZ at hr;split at hr
   ·cases hr
   ·grind[bw]
  grind[wo,Instr.loadAt,Instr.sureAddr,asAddr]
theorem M5 (h:Rel G N st a w L F):∀{rs:List ResultVar} {ds c},mY P st rs=some (ds,c)→c→
  ∃vs:List Value,(rs.mapM (wo a.tmps)).run P w= .ok vs w∧cA w L F (Ub st.n) ds vs
 |[],ds,c,hr,_=>by simp_all[mY,cA]
 |r::rs,ds,c,hr,hc=>by
  simp only[mY]at hr;split at hr
  ·rename_i d c1 ds1 c2 h1 h2;simp only[aL,aY]at hr;obtain⟨rfl,rfl⟩:=hr;obtain⟨v,g1,g2⟩:=Qg h h1 hc.1;obtain⟨vs,g3,g4⟩:=M5 h h2 hc.2;exact⟨v::vs,aq,by simp_all[cA]⟩
  grind
theorem Yv (h:Rel G N st a w L F){fn:Func}{ds c}(hr:mY P st fn.results.toList=some (ds,c))(hc:c):
  ∃v,(results fn a.tmps).run P w= .ok v w∧bw w L F (Ub st.n) (one ds) v:=by
 obtain⟨vs,h1,h2⟩:=M5 h hr hc;have hm:(fn.results.mapM (wo a.tmps)).run P w= .ok vs.toArray w:=by rw[←gJ (xs:=fn.results),List.mapM_toArray,Sem.run_map,h1];rfl
 rw[Yu,dG,hm];simp only[cV,gn];by_cases hs:vs.toArray.size=1
 ·rw[dif_pos hs];refine⟨_,rfl,?_⟩
  match vs,ds,hs,h2 with
  |[v],[d],_,h2=>simp_all[one,cA]
 ·rw[dif_neg hs];refine⟨_,rfl,?_⟩;have:one ds= .tup ds:=by
   have hl:=((cA.iff _ _).1 h2).1
   match ds with
   |[]=>rfl
   |[d]=>grind
   |_::_::_=>rfl
  grind[bw]
def AR (P:Program)(fn:Func)(Q:D→bR→Nat→Prop):Exit→St→Prop
 | .normal,st| .ret,st=>
  match mY P st fn.results.toList with
  |some (ds,c)=>c∧Q (one ds) st.H st.n
  |none=>False
 |_,_=>False
def rZ (args:List D):Nat→D:=fun t=>args.getD t .junk
theorem Io {f:FuncId}{fn:Func}{c:Code}{args:List D}{H:bR}{n:Nat}{Q:D→bR→Nat→Prop}(hcall:cW P f)(hf:P.funcs[f]?=some fn)(hb:fn.body=some c){N:Nat}(hN:fn.ntmps=N)(hl:args.length≤N)
  (h:W P G N c (AR P fn Q) ⟨rZ args,H,n⟩):cS P G f args H n Q:=by
 refine⟨hcall,fun w L F vs hok hvs=>?_⟩;refine calls_of_wp hf hb ?_;have hvl:=((cA.iff _ _).1 hvs);have hrel:Rel G N ⟨rZ args,H,n⟩ {tmps:=vs.toArray++Array.replicate (fn.ntmps-vs.toArray.size) undef,defers:=[]} w L F:=by
  refine⟨hok,ap,fun t=>?_,rfl⟩;simp only[rZ];by_cases ht:t<args.length
  ·have:=hvl.2 t ht;simp_all[Array.getElem?_append_left]
  ·simp_all[bw]
 refine jS (h _ w L F hrel) fun e a' w' hs=>?_;obtain⟨st',L',F',hq,hr,hst⟩:=hs;have key:∀(hq:(match mY P st' fn.results.toList with
  |some (ds,c)=>c∧Q (one ds) st'.H st'.n
  |none=>False)),a'.defers=[]∧∃v,(results fn a'.tmps).run P w'= .ok v w'∧∃v0 d H' n' L' F',Ending.returned v= .returned v0∧Q d H' n'∧OkW G w' L' F' (Ub n') H'∧bw w' L' F' (Ub n') d v0∧dH H w L F (Ub n) H' w' L' F' (Ub n'):=by
  intro hq;split at hq
  ·rename_i ds c' hds;obtain⟨v,g1,g2⟩:=Yv hr hds hq.1;exact⟨hr.nd,v,g1,v,one ds,st'.H,st'.n,L',F',rfl,hq.2,hr.ok,g2,hst⟩
  ·grind
 cases e with
 |normal=>exact key hq
 |ret=>exact key hq
 |_=>exact hq.elim
end
def D.val (d:D):Option D:=
 match d with
 | .tup ds=>(D.toFDs ds).map fun xs=> .tup (xs.map .fz)
 |d=>d.toFD.map .fz
def H0:bR:=fun _=>none
section
variable {P:Program} {G:Nat→List FD} {N:Nat} {st:St} {w:World} {L L':Loc} {F:Nat→Nat→Prop} {U U':Id→Prop}
theorem cA.of_toFDs {ds:List D}{vs:List Value}{xs:List FD}(h:cA w L F U ds vs)(e:D.toFDs ds=some xs):cA w L' F U' (xs.map .fz) vs:=by grind[cA.toFDs,cA.iff,yo,bw]
theorem bw.val {d r:D}{v:Value}(h:bw w L F U d v)(e:D.val d=some r):bw w L' F U' r v:=by
 unfold D.val at e;split at e
 ·rename_i ds;simp only[bN]at e;obtain⟨xs,e,rfl⟩:=e;simp only[bw]at h ⊢;obtain⟨vs,rfl,h⟩:=h;exact⟨vs,rfl,h.of_toFDs e⟩
 grind[Option.map_eq_some_iff,bw,bw.toFD]
theorem JB {f:FuncId}{args:List D}{xs:List FD}{r:D}{H:bR}{n:Nat}(ha:D.toFDs args=some xs)
  (h:cS P G f (xs.map .fz) H0 0 (fun d _ _=>D.val d=some r)):cS P G f args H n (fun d H' n'=>d=r∧H'=H∧n'=n):=by
 refine⟨h.1,fun w L F vs hok hvs=>?_⟩;refine(h.2 w L F vs ⟨hok.fb,(fun _ _ h=>nomatch h),(fun _ _ _ _ h=>nomatch h),hok.glob⟩ (hvs.of_toFDs ha)).mono fun e w' he=>?_;obtain⟨v,d,H',n',L',F',rfl,hd,g1,g2,g3⟩:=he;have nb:∀b,¬Blk H0 L b:=by rintro b ⟨_,_,h,_⟩;cases h
 have no:∀b k,¬Own H0 L b k:=by rintro b k ⟨_,_,h,_⟩;cases h
 have ext:Ext w L F (Ub n) w' L F' (Ub n):=⟨fun _ h=>h,fun _ _=>rfl,g3.f,fun b k hb=>g3.keepc b k (hok.fb b k hb) (no b k),g3.size,g3.shape⟩;refine⟨v,r,H,n,L,F',rfl,⟨rfl,rfl,rfl⟩,⟨g1.fb,?_,hok.inj,g1.glob⟩,g2.val hd,?_⟩
 ·intro id o ho;obtain⟨h1,h2⟩:=hok.live id o ho;refine⟨h1,h2.ext ext h1 fun hv=>?_⟩;have hlt:=hok.blk_lt ho hv;refine⟨g3.keep _ hlt (nb _),fun k hk hF=>?_⟩;rcases g3.fnew _ _ hF with h|h|h
  all_goals grind[iL]
 ·refine⟨fun _ h=>h,fun _ _=>rfl,g3.f,g3.size,fun b hb _=>g3.keep b hb (nb b),fun b k hb _=>g3.keepc b k hb (no b k),g3.shape,fun b k hb=>?_,ap,g3.os,g3.tape,g3.output,g3.drawn⟩;rcases g3.fnew b k hb with h|h|h
  all_goals grind
theorem jl {f:FuncId}{args:List D}{H:bR}{n:Nat}{Q Q':D→bR→Nat→Prop}(h:cS P G f args H n Q)(hq:∀d H n,Q d H n→Q' d H n):cS P G f args H n Q':=
 ⟨h.1,fun w L F vs hok hvs=>(h.2 w L F vs hok hvs).mono ap⟩
abbrev Tbl:=FuncId→Option (List FD→Option (D×Prop))
def b9 (P:Program)(G:Nat→List FD)(T:Tbl):Prop:=
 ∀f t xs r c,T f=some t→t xs=some (r,c)→c→cS P G f (xs.map .fz) H0 0 (fun d _ _=>D.val d=some r)
def z6 (T:Tbl)(f:D)(args:List D):Option (D×Prop):=
 match f with
 | .fn g caps=>match T g,D.toFDs (args++caps)with
  |some t,some xs=>t xs
  |_,_=>none
 |_=>none
def uD (P:Program)(t:TypeId)(n:Nat)(is:List Nat)(ds:List D):Option (D×Prop):=
 match fG P t,D.toFDs ds with
 |some te,some xs=>some (.full xs,is=List.range n∧dP xs te.size∧n*te.size≤2^24∧n≤dt)
 |_,_=>none
def zV:D→Option (List FD)
 | .full xs=>some xs
 |_=>none
def qW (d:D):Option (List FD):=
 match d.toFD with
 |some (.sl ys)=>some ys
 |_=>none
def uT (P:Program)(t u:TypeId)(x y:D):Option (D×Prop):=
 match fG P t,cN P u,zV x,qW y with
 |some te,some ui,some xs,some ys=>if ui.isSlice then some (.fz (.sl (xs++ys)),dP xs te.size∧dP ys te.size∧fits (xs.length+ys.length) te.bytes)else none
 |_,_,_,_=>none
def jy (P:Program)(T:Tbl)(o:Oper)(ev:Operand→D)(H:bR):Option (D×Prop):=
 match gD P o ev H with
 |some r=>some r
 |none=>
  match o.op with
  | .buildSlice t n ps=>uD P t n (ps.toList.map (·.1)) (ps.toList.map fun p=>ev p.2)
  | .call c=>
   match c.callee with
   | .value f=>z6 T (ev f) (c.args.toList.map ev)
   | .builtin .append=>
    match c.args.toList,c.argTypes.toList with
    |[x,y],[t,u]=>uT P t u (ev x) (ev y)
    |_,_=>none
   |_=>none
  |_=>none
theorem Wb {H:bR}{te:TI}{y:D}{ys:List FD}(h:qW y=some ys):∃src c,nN H te y=some (ys.length,src,c):=by
 unfold qW at h;split at h
 ·rename_i zs hz;obtain rfl:=bq h;cases y<;>simp[D.toFD]at hz
  ·subst hz;exact⟨_,_,rfl⟩
  ·subst hz;exact⟨_,_,rfl⟩
  ·subst hz;exact⟨_,_,rfl⟩
 grind
theorem B8 {T:Tbl}(hT:b9 P G T){o:Oper}{tag0:Nat}{K:St→Prop}{d:D}{c:Prop}(hd:fI N o.dst=true)(h:jy P T o (st.ev G) st.H=some (d,c))(hc:c)(hK:K (st.put o.dst d)):
  jN P G N tag0 o st K:=by
 unfold jy at h;unfold jN;split at h
 ·rename_i r hr;rw[hr];obtain⟨d',c'⟩:=r;simp only[aL,aY]at h;obtain⟨rfl,rfl⟩:=h;exact⟨hd,hc,hK⟩
 ·rename_i hn;rw[hn];refine⟨hd,?_⟩;split at h
  ·rename_i t n ps heq;rw[heq];simp only[uD]at h;simp only;grind
  ·rename_i cl heq;rw[heq];simp only;split at h
   ·rename_i f hcal;rw[hcal];simp only;unfold z6 at h;split at h
    ·rename_i g caps hf;rw[hf];simp only;split at h
     ·rename_i t xs ht hxs;refine jl (JB hxs (hT _ _ _ _ _ ht h hc)) ?_;simp_all
     grind
    grind
   ·rename_i hcal;rw[hcal];simp only;split at h
    ·rename_i x y t u ha ht;rw[ha,ht];simp only;unfold uT at h;split at h
     ·rename_i te ui xs ys h1 h2 h3 h4;split at h
      ·rename_i hs;simp only[aL,aY]at h;obtain⟨rfl,rfl⟩:=h;unfold sk;rw[h1,h2];simp only;have hx:st.ev G x= .full xs:=by revert h3;cases st.ev G x<;>simp[zV]
       obtain⟨src,cc,hsrc⟩:=Wb (H:=st.H) (te:=te) h4;rw[hs,hsrc,hx];simp only;grind[qW]
      grind
     grind
    grind
   grind
  ·cases h
end
def frL:List (Nat×D)→Nat→D
 |[],_=> .junk
 |(k,d)::l,t=>if t=k then d else frL l t
def Req (c k:Prop):Prop:=c∧k
def mA (b:Bool)(x y:Prop):Prop:=(b=true→x)∧(b=false→y)
def Bi {α:Type}(r:Option α)(k:α→Prop):Prop:=match r with|some a=>k a|none=>False
def ob {α β:Type}(r:Option α)(k:α→Option β):Option β:=match r with|some a=>k a|none=>none
def Chk (b:Bool)(k:Prop):Prop:=b=true∧k
theorem OE {k:Prop}:Req True k=k:=by simp[Req]
theorem OD {k:Prop}:Chk true k=k:=by simp[Chk]
theorem Xk {x y:Prop}:mA true x y=x:=by simp[mA]
theorem WG {x y:Prop}:mA false x y=y:=by simp[mA]
theorem zR {α β:Type}{a:α}{k:α→Option β}:ob (some a) k=k a:=rfl
theorem zBW {k t:Nat}{d:D}{l:List (Nat×D)}:frL ((k,d)::l) t=if t=k then d else frL l t:=rfl
theorem zE9 {t:Nat}:frL [] t= .junk:=rfl
theorem Req.i {c k:Prop}(h:c)(h':c→k):Req c k:=⟨h,h' h⟩
theorem mA.i {b:Bool}{x y:Prop}(h:b=true→x)(h':b=false→y):mA b x y:=⟨h,h'⟩
theorem zCH {l:List (Nat×D)}{H:bR}{n t:Nat}{d:D}:St.put ⟨frL l,H,n⟩ (some t) d=⟨frL ((t,d)::l),H,n⟩:=by rfl
theorem zCF {l:List (Nat×D)}{H:bR}{n:Nat}{d:D}:St.put ⟨frL l,H,n⟩ none d=⟨frL l,H,n⟩:=rfl
theorem zI9 {l:List (Nat×D)}{H:bR}{n:Nat}{id:Id}{o:O}{dst:Option Tmp}{d:D}:St.new ⟨frL l,H,n⟩ id o dst d=
  {St.put ⟨frL l,H,n⟩ dst d with H:=cp H id (some o),n:=n+1}:=rfl
theorem zSm {fr:Nat→D}{H:bR}{n:Nat}:St.H ⟨fr,H,n⟩=H:=rfl
theorem zSn {fr:Nat→D}{H:bR}{n:Nat}:St.n ⟨fr,H,n⟩=n:=rfl
theorem zN7 {fr:Nat→D}{H:bR}{n:Nat}:St.fr ⟨fr,H,n⟩=fr:=rfl
theorem zHY {G:Nat→List FD}{fr:Nat→D}{H:bR}{n t:Nat}:St.ev G ⟨fr,H,n⟩ (.tmp t)=fr t:=rfl
theorem zBL {G:Nat→List FD}{st:St}{v:Value}:St.ev G st (.const v)=rP v:=rfl
theorem zEY {G:Nat→List FD}{st:St}{f:FuncId}:St.ev G st (.func f)= .fn f []:=rfl
theorem zr6 {b:Bool}:rP (.bool b)= .fz (.b b):=rfl
theorem zvu {k:IntKind}{n:Int}:rP (.int k n)=if AN k n then .fz (.i k n)else .junk:=rfl
theorem znJ {s:ByteArray}:rP (.string s)=if s.data.toList.length≤1000000 then .fz (.s s.data.toList)else .junk:=rfl
theorem zvv:rP (.slice none 0 0)= .full []:=rfl
theorem zr7:rP .nilFunc= .fz .nilf:=rfl
theorem zDd {H:bR}{i j:Id}{o:Option O}:cp H i o j=if j=i then o else H j:=rfl
theorem Z0 {H:bR}{i:Id}{o o':Option O}:cp (cp H i o) i o'=cp H i o':=by grind[cp]
theorem zvC {N t:Nat}:fI N (some t)=decide (t<N):=rfl
theorem zvB {N:Nat}:fI N none=true:=rfl
section
variable {P:Program} {H:bR} {t u:TypeId} {x y i:D}
def uq (ti:TI)(H:bR):D→Option (D×Prop)
 | .rp xs=>some (if ti.agg then .fz (.agg (xs.take ti.size))else .fz (xs.getD 0 .nilf),ti.size≤xs.length∧(ti.agg=false→ti.size=1))
 | .ptr id k=>ob (H id) fun o=>some (if ti.agg then .agg ((o.cells.drop k).take ti.size)else o.cells.getD k .junk,
     k+ti.size≤o.cells.length∧o.virt=false∧(ti.agg=false→ti.size=1))
 |_=>none
theorem B7:pZ P H t x=ob (cN P t) fun ti=>uq ti H x:=by grind[pZ,ob,uq]
def faD (off size:Nat):D→Option (D×Prop)
 | .ptr id k=>some (.ptr id (k+off),size≠0)
 | .rp xs=>some (.rp (xs.drop off),size≠0)
 |_=>none
def fieldsOf:Und→Nat→Option (Nat×TypeId)
 | .struct fs,i=>fs[i]?
 |_,_=>none
theorem VT {i:Nat}:se P t x i=ob (cN P t) fun ti=>ob (fieldsOf ti.und i) fun f=>ob (cN P f.2) fun fi=>faD f.1 fi.size x:=by
 unfold se ob;cases cN P t with
 |none=>rfl
 |some ti=>
  obtain⟨_,_,_,und,_,_,_⟩:=ti;cases und<;>try rfl
  rename_i fs;simp only[fieldsOf];cases fs[i]? with
  |none=>rfl
  |some f=>
   obtain⟨off,ft⟩:=f;simp only;cases cN P ft with
   |none=>rfl
   |some fi=>rfl
def fD (off size:Nat)(agg:Bool):D→Option (D×Prop)
 | .agg ds=>some (if agg then .agg ((ds.drop off).take size)else ds.getD off .junk,off+size≤ds.length∧(agg=false→size=1))
 | .fz (.agg ds)=>some (if agg then .fz (.agg ((ds.drop off).take size))else .fz (ds.getD off .nilf),off+size≤ds.length∧(agg=false→size=1))
 |_=>none
def D4:Und→Option TypeId
 | .slice e=>some e
 |_=>none
theorem Zm:fG P t=ob (cN P t) fun ti=>ob (D4 ti.und) fun e=>cN P e:=by
 unfold fG ob;cases cN P t with
 |none=>rfl
 |some ti=>obtain⟨_,_,_,und,_,_,_⟩:=ti;cases und<;>rfl
def iaD (size:Nat)(x y:D):Option (D×Prop):=
 match x,y with
 | .fz (.sl xs),.fz (.i _ n)=>some (.rp (xs.getD n.toNat .nilf).cells,0≤n∧n<xs.length∧(xs.getD n.toNat .nilf).cells.length=size)
 | .full xs,.fz (.i _ n)=>some (.rp (xs.getD n.toNat .nilf).cells,0≤n∧n<xs.length∧(xs.getD n.toNat .nilf).cells.length=size)
 | .ow _ _ xs,.fz (.i _ n)=>some (.rp (xs.getD n.toNat .nilf).cells,0≤n∧n<xs.length∧(xs.getD n.toNat .nilf).cells.length=size)
 | .arr id es s len,.fz (.i _ n)=>some (.ptr id (s+n.toNat*es),0≤n∧n<len∧es=size)
 |_,_=>none
theorem V0:sf P t x y=ob (fG P t) fun te=>iaD te.size x y:=by
 unfold sf ob;cases fG P t with
 |none=>rfl
 |some te=>
  have key:∀z:FD,(∀k n,z≠ .i k n)→iaD te.size x (.fz z)=none:=by intro z hz;cases z<;>first|exact absurd rfl (hz _ _)|(cases x<;>(try rfl)<;>rename_i q<;>cases q<;>rfl)
  cases y with
  |fz z=>
   cases z with
   |i k n=>cases x<;>(try rfl)<;>rename_i q<;>cases q<;>rfl
   |_=>exact ap
  |_=>cases x<;>(try rfl)<;>rename_i q<;>cases q<;>rfl
def sW (str slice:Bool):D→Option (D×Prop)
 | .fz (.s l)=>if str then some (.fz (.i .i64 l.length),True)else none
 | .fz (.sl xs)=>if slice then some (.fz (.i .i64 xs.length),True)else none
 | .full xs=>if slice then some (.fz (.i .i64 xs.length),True)else none
 | .ow _ _ xs=>if slice then some (.fz (.i .i64 xs.length),True)else none
 | .arr _ _ _ len=>if slice then some (.fz (.i .i64 len),True)else none
 |_=>none
theorem Pf:sO P t x=ob (cN P t) fun ti=>sW ti.isStr ti.isSlice x:=by
 unfold sO ob;cases cN P t with
 |none=>rfl
 |some ti=>cases x<;>(try rfl)<;>rename_i z<;>cases z<;>rfl
theorem Xz {l:List UInt8}{k:IntKind}{n:Int}:sE P t (.fz (.s l)) (.fz (.i k n))=ob (cN P t) fun ti=>if ti.isStr then some (.fz (.i .u8 ((l.getD n.toNat 0).toNat:Int)),0≤n∧n<l.length)else none:=by unfold sE ob;grind
theorem BA {te:TI}(h:fG P t=some te):∃ti,cN P t=some ti:=by grind[fG]
theorem XD {xs:List FD}{lo hi:Option D}:oh P t (.fz (.sl xs)) lo hi none=ob (fG P t) fun te=>ob (nu lo) fun a=>ob (mP xs.length hi) fun b=>
  some (.fz (.sl (ku xs a b)),0≤a∧a≤b∧b≤xs.length∧(a=0∨a=b∨(xs.getD a.toNat .nilf).cells.length=te.size)):=by
 unfold oh ob;cases he:fG P t with
 |none=>cases cN P t<;>rfl
 |some te=>obtain⟨ti,ht⟩:=BA he;rw[ht];simp only;grind
theorem Xa {xs:List FD}{lo:Option D}{hi:D}{k:IntKind}{m:Int}:oh P t (.fz (.sl xs)) lo (some hi) (some (.fz (.i k m)))=ob (fG P t) fun te=>ob (nu lo) fun a=>ob (mP xs.length (some hi)) fun b=>
  some (.full (ku xs a b),0≤a∧a≤b∧b≤xs.length∧m=b∧(a=0∨a=b∨(xs.getD a.toNat .nilf).cells.length=te.size)):=by
 unfold oh ob;cases he:fG P t with
 |none=>cases cN P t<;>rfl
 |some te=>obtain⟨ti,ht⟩:=BA he;rw[ht];simp only;grind
theorem W9 {id:Id}{es s len:Nat}{lo hi:Option D}:oh P t (.arr id es s len) lo hi none=ob (fG P t) fun te=>ob (nu lo) fun a=>ob (mP len hi) fun b=>
  some (.arr id es (s+a.toNat*es) (b-a).toNat,0≤a∧a≤b∧b≤len∧es=te.size):=by
 unfold oh ob;cases he:fG P t with
 |none=>cases cN P t<;>rfl
 |some te=>obtain⟨ti,ht⟩:=BA he;rw[ht];simp only;grind
def o7 (op:BinOp)(r:Bool)(c:Prop):Option (D×Prop):=
 match op with
 | .eql=>some (.fz (.b r),c)
 | .neq=>some (.fz (.b (!r)),c)
 |_=>none
theorem Z9 {op:BinOp}{k k':IntKind}{a b:Int}:kK P op t (.fz (.i k a)) (.fz (.i k' b))=ly op k k' a b:=rfl
theorem Z' {op:BinOp}{a b:List UInt8}:kK P op t (.fz (.s a)) (.fz (.s b))=oX op a b:=rfl
theorem PP {op:BinOp}{a b:Bool}:kK P op t (.fz (.b a)) (.fz (.b b))=ob (cN P t) fun ti=>if ti.isBool then o7 op (a==b) True else none:=by unfold kK ob;cases cN P t<;>rfl
theorem yp {op:BinOp}{xs ys:List FD}:(match cN P t with
   |some ti=>
    match lk ti.fund xs ys with
    |some (r,c)=>if ti.eqok then
      match op with
      | .eql=>some (D.fz (.b r),c)
      | .neq=>some (.fz (.b (!r)),c)
      |_=>none
     else none
    |none=>none
   |none=>none)=ob (cN P t) fun ti=>ob (lk ti.fund xs ys) fun rc=>if ti.eqok then o7 op rc.1 rc.2 else none:=by
 unfold ob;cases cN P t with
 |none=>rfl
 |some ti=>simp only;cases lk ti.fund xs ys<;>rfl
theorem PR {op:BinOp}{xs ys:List FD}:kK P op t (.fz (.agg xs)) (.fz (.agg ys))=ob (cN P t) fun ti=>ob (lk ti.fund xs ys) fun rc=>if ti.eqok then o7 op rc.1 rc.2 else none:=by rw[←yp];rfl
theorem PO {op:BinOp}{ds:List D}{ys:List FD}:kK P op t (.agg ds) (.fz (.agg ys))=ob (D.toFDs ds) fun xs=>ob (cN P t) fun ti=>ob (lk ti.fund xs ys) fun rc=>if ti.eqok then o7 op rc.1 rc.2 else none:=by
 simp only[kK,D.toFD];cases h:D.toFDs ds with
 |none=>rfl
 |some xs=>simp only[bL,zR];exact yp
theorem PQ {op:BinOp}{ds:List D}{xs:List FD}:kK P op t (.fz (.agg xs)) (.agg ds)=ob (D.toFDs ds) fun ys=>ob (cN P t) fun ti=>ob (lk ti.fund xs ys) fun rc=>if ti.eqok then o7 op rc.1 rc.2 else none:=by
 simp only[kK,D.toFD];cases h:D.toFDs ds with
 |none=>rfl
 |some xs=>simp only[bL,zR];exact yp
theorem PN {op:BinOp}{ds es:List D}:kK P op t (.agg ds) (.agg es)=ob (D.toFDs ds) fun xs=>ob (D.toFDs es) fun ys=>ob (cN P t) fun ti=>ob (lk ti.fund xs ys) fun rc=>if ti.eqok then o7 op rc.1 rc.2 else none:=by
 simp only[kK,D.toFD];cases h:D.toFDs ds with
 |none=>rfl
 |some xs=>
  simp only[bL,zR];cases h:D.toFDs es with
  |none=>rfl
  |some xs=>simp only[bL,zR];exact yp
theorem Pc {s:TypeId}{k:IntKind}{n:Int}:pX P s t (.fz (.i k n))=ob (cN P s) fun _=>ob (cN P t) fun ti=>ob ti.intK fun k=>some (.fz (.i k n),inK k n):=by unfold pX ob;grind
theorem Pb {s:TypeId}{n:Int}:pX P s t (.full [.i .u8 n])=ob (cN P s) fun _=>ob (cN P t) fun ti=>ob (fG P s) fun te=>ob te.intK fun k=>if k= .u8 then(if ti.isStr then some (.fz (.s [UInt8.ofNat n.toNat]),True)else none)else none:=by unfold pX ob;grind
def zt:Und→Option (List (Nat×TypeId))
 | .struct fs=>some fs
 |_=>none
theorem W8 {fs:List (Nat×TypeId)}{cells:List D}{i:Nat}{d:D}{rest:List (Nat×D)}:oQ P fs cells ((i,d)::rest)=
  ob fs[i]? fun f=>ob (cN P f.2) fun fi=>ob (oQ P fs (mh cells f.1 d.cs) rest) fun r=>some (r.1,(d.cs.length=fi.size∧f.1+fi.size≤cells.length)∧r.2):=by
 grind[oQ,ob,cN]
theorem zvN {fs:List (Nat×TypeId)}{cells:List D}:oQ P fs cells []=some (cells,True):=rfl
theorem Xw {ps:List (Nat×D)}:sH P t ps=ob (cN P t) fun ti=>ob (zt ti.und) fun fs=>if fs.all (fun p=>(cN P p.2).isSome)then ob (oQ P fs ti.zero ps) fun r=>some (.agg r.1,r.2)else none:=by grind[sH,ob,zt]
end
def Vv (N:Nat)(r:Option (D×Prop))(st:St)(dst:Option Tmp)(K:St→Prop):Prop:=
 Bi r fun dc=>Chk (fI N dst) (Req dc.2 (K (st.put dst dc.1)))
def pC:Operand→Bool
 | .const (.slice none 0 0)=>true
 |_=>false
def wc (P:Program)(N:Nat)(op:BinOp)(t:TypeId)(x:D)(st:St)(dst:Option Tmp)(K:St→Prop):Prop:=
 match fG P t,rN x,op with
 |some _,some len,.eql=>fI N dst=true∧∀b,(b=true→len=0)→K (st.put dst (.fz (.b b)))
 |some _,some len,.neq=>fI N dst=true∧∀b,(b=false→len=0)→K (st.put dst (.fz (.b b)))
 |_,_,_=>False
def xU:D→Option (Id×Nat)
 | .ptr id k=>some (id,k)
 |_=>none
def we:D→Option (FuncId×List D)
 | .fn f caps=>some (f,caps)
 |_=>none
def tY:D→Option Int
 | .fz (.i _ n)=>some n
 |_=>none
def Sk (P:Program)(G:Nat→List FD)(t:TypeId)(a x:Operand)(st:St)(dst:Option Tmp)(K:St→Prop):Prop:=
 Bi (cN P t) fun ti=>Bi (xU (st.ev G a)) fun p=>Bi (st.H p.1) fun o=>
  Req (dst=none∧o.virt=false∧(st.ev G x).known=true∧(st.ev G x).cs.all fh=true∧(st.ev G x).cs.length=ti.size∧p.2+ti.size≤o.cells.length)
   (K {st with H:=cp st.H p.1 (some {o with cells:=mh o.cells p.2 (st.ev G x).cs})})
def Fo (P:Program)(G:Nat→List FD)(N:Nat)(g:FuncId)(args:List D)(st:St)(dst:Option Tmp)(K:St→Prop):Option (List FD→Option (D×Prop))→Prop
 |some t=>Bi (D.toFDs args) fun xs=>Vv N (t xs) st dst K
 |none=>Chk (fI N dst) (cS P G g args st.H st.n fun d H n=>K (({st with H:=H,n:=n}:St).put dst d))
def As (te:TI)(s:Nat×List D×Prop)(tag:Nat)(st:St)(dst:Option Tmp)(K:St→Prop):D→Prop
 | .full xs=>Req (s.2.2∧dP xs te.size∧0<te.size∧(0<s.1∨xs=[])∧fits (xs.length+s.1) te.bytes)
   (K (st.new (tag,st.n) ⟨bA xs++s.2.1,false,(bA xs++s.2.1).isEmpty⟩ dst (.arr (tag,st.n) te.size 0 (xs.length+s.1))))
 | .arr id es b len=>Bi (st.H id) fun o=>Req (s.2.2∧es=te.size∧b+len*te.size≤o.cells.length∧s.2.1.all fh=true∧0<te.size∧fits (len+s.1) te.bytes)
   (K ({st with H:=cp st.H id none}.new (tag,st.n) ⟨(o.cells.drop b).take (len*te.size)++s.2.1,false,o.virt&&((o.cells.drop b).take (len*te.size)++s.2.1).isEmpty⟩ dst (.arr (tag,st.n) te.size 0 (len+s.1))))
 |_=>False
def ri:List D→Option (List FD)
 |[]=>some []
 | .fz x::ds=>match x with
  | .agg _=>none
  |x=>(ri ds).map (x::·)
 |_::_=>none
theorem Lr:∀{ds:List D} {ys:List FD},ri ds=some ys→ds=bA ys∧dP ys 1∧ds.length=ys.length
 |[],ys,h=>by simp only[ri,aL]at h;subst h;exact⟨rfl,fun x hx=>by simp at hx,rfl⟩
 | .fz x::ds,ys,h=>by
  cases x<;>simp only[ri,bN,reduceCtorEq]at h<;>(obtain⟨zs,h,rfl⟩:=h)<;>(obtain⟨h1,h2,h3⟩:=Lr h)<;>
   exact⟨by rw[h1];rfl,fun y hy=>(aV.1 hy).elim (fun e=>by rw[e];rfl) (h2 y),by simp[h3]⟩
 | .junk::_,_,h| .full _::_,_,h| .rp _::_,_,h| .ptr _ _::_,_,h| .arr _ _ _ _::_,_,h| .ow _ _ _::_,_,h| .fn _ _::_,_,h| .agg _::_,_,h| .tup _::_,_,h=>by simp[ri]at h
def qY (H:bR)(te:TI)(y:D):Option (List FD×Prop):=
 match y with
 | .arr id es s len=>ob (H id) fun o=>ob (ri ((o.cells.drop s).take (len*te.size))) fun ys=>some (ys,te.size=1∧es=te.size∧s+len*te.size≤o.cells.length)
 |y=>ob (qW y) fun ys=>some (ys,dP ys te.size)
theorem Lw {H:bR}{te:TI}{y:D}{ys:List FD}{c:Prop}(h:qY H te y=some (ys,c))(hc:c):∃cc,nN H te y=some (ys.length,bA ys,cc)∧cc∧dP ys te.size:=by
 unfold qY at h;split at h
 ·rename_i id es s len;unfold ob at h;split at h
  case h_2=>cases h
  rename_i o ho;dsimp only at h;split at h
  case h_2=>cases h
  rename_i zs hz;simp only[aL,aY]at h;obtain⟨rfl,rfl⟩:=h;obtain⟨h1,h2,h3⟩:=Lr hz;obtain⟨c1,c2,c3⟩:=hc;have hl:zs.length=len:=by rw[←h3,aX,jc,c1];rw[c1]at c3;omega
  refine⟨es=te.size∧s+len*te.size≤o.cells.length,?_,⟨c2,c3⟩,ap⟩;simp_all[nN]
 ·unfold ob at h;split at h
  case h_2=>cases h
  rename_i zs hz;simp only[aL,aY]at h;obtain⟨rfl,rfl⟩:=h;unfold qW at hz;split at hz
  case h_2=>cases hz
  rename_i ws hw;obtain rfl:=bq hz;cases y<;>simp[D.toFD]at hw
  ·subst hw;exact⟨_,rfl,hc,hc⟩
  ·subst hw;exact⟨_,rfl,hc,hc⟩
  ·subst hw;exact⟨_,rfl,hc,hc⟩
def Fm (te:TI)(tag:Nat)(om:Bool)(st:St)(dst:Option Tmp)(K:St→Prop)(y:D):D→Prop
 | .ow id es xs=>Bi (qY st.H te y) fun yc=>Bi (st.H id) fun _=>Req (es=te.size∧dP xs te.size∧yc.2∧(bA yc.1).all fh=true∧fits (xs.length+yc.1.length) te.bytes)
   (K ({st with H:=cp st.H id none}.new (tag,st.n) tok dst (.ow (tag,st.n) te.size (xs++yc.1))))
 | .full xs=>mA om (Bi (qY st.H te y) fun yc=>Req (dP xs te.size∧yc.2∧fits (xs.length+yc.1.length) te.bytes) (K (st.new (tag,st.n) tok dst (.ow (tag,st.n) te.size (xs++yc.1)))))
   (Bi (nN st.H te y) fun s=>As te s tag st dst K (.full xs))
 | .arr id es b len=>Bi (nN st.H te y) fun s=>As te s tag st dst K (.arr id es b len)
 |_=>False
def x5 (P:Program)(G:Nat→List FD)(N tag:Nat)(am om:Bool)(args:List Operand)(ts:List TypeId)(st:St)(dst:Option Tmp)(K:St→Prop):Prop:=
 match args,ts with
 |[x,y],[t,u]=>
  if am then Bi (fG P t) fun te=>Bi (cN P u) fun ui=>Chk (fI N dst&&ui.isSlice) (Fm te tag om st dst K (st.ev G y) (st.ev G x))
  else Vv N (uT P t u (st.ev G x) (st.ev G y)) st dst K
 |_,_=>False
def xJ (P:Program)(G:Nat→List FD)(T:Tbl)(N tag:Nat)(am om:Bool)(args:Array Operand)(ts:Array TypeId)(st:St)(dst:Option Tmp)(K:St→Prop):Callee→Prop
 | .value f=>Bi (we (st.ev G f)) fun gc=>Fo P G N gc.1 (args.toList.map (st.ev G)++gc.2) st dst K (T gc.1)
 | .builtin .append=>x5 P G N tag am om args.toList ts.toList st dst K
 | .builtin .len=>Vv N (nr P .len ts (args.toList.map (st.ev G))) st dst K
 | .builtin .max=>Vv N (nr P .max ts (args.toList.map (st.ev G))) st dst K
 | .builtin .min=>Vv N (nr P .min ts (args.toList.map (st.ev G))) st dst K
 |_=>False
def Tw (P:Program)(N tag:Nat)(t:TypeId)(l c:D)(st:St)(dst:Option Tmp)(K:St→Prop):Prop:=
 Bi (fG P t) fun te=>Bi (tY l) fun n=>Bi (tY c) fun m=>Chk (fI N dst) (Req (m=n∧0≤n∧n.toNat≤dt∧te.bytes*n≤2^48)
  (K (st.new (tag,st.n) ⟨(List.range (n.toNat*te.size)).map fun j=>te.zero.getD (j % te.size) .junk,false,false⟩ dst (.arr (tag,st.n) te.size 0 n.toNat))))
def JU (P:Program)(G:Nat→List FD)(N tag:Nat)(t:TypeId)(n:Nat)(ps:List (Nat×Operand))(st:St)(dst:Option Tmp)(K:St→Prop):Prop:=
 Bi (fG P t) fun te=>Chk (fI N dst&&ps.all fun p=>rk te.size (st.ev G p.2)) (Req (ps.map (·.1)=List.range n∧n≤2^24∧n*te.size≤2^24)
  (K (st.new (tag,st.n) ⟨ps.flatMap fun p=>(st.ev G p.2).cs,false,false⟩ dst (.arr (tag,st.n) te.size 0 n))))
def XO (P:Program)(G:Nat→List FD)(T:Tbl)(N tag0:Nat)(am:Nat→Bool)(st:St)(K:St→Prop)(dst:Option Tmp):Op→Prop
 | .move x=>Chk (fI N dst) (K (st.put dst (st.ev G x)))
 | .assign x=>Chk (fI N dst) (K (st.put dst (st.ev G x)))
 | .pick c a b=>Vv N (rU (st.ev G c) (st.ev G a) (st.ev G b)) st dst K
 | .build t ps=>Chk (ps.toList.all fun p=>(st.ev G p.2).known) (Vv N (sH P t (ps.toList.map fun p=>(p.1,st.ev G p.2))) st dst K)
 | .load t a=>Vv N (pZ P st.H t (st.ev G a)) st dst K
 | .nilCheck x=>Vv N (tW (st.ev G x)) st dst K
 | .binOp op t x y _=>if pC y then wc P N op t (st.ev G x) st dst K else Vv N (kK P op t (st.ev G x) (st.ev G y)) st dst K
 | .unOp op _ x=>Vv N (sU op (st.ev G x)) st dst K
 | .convert s t x=>Vv N (pX P s t (st.ev G x)) st dst K
 | .makeFunc (.func f) first caps=>Chk (first.size==0&&fI N dst) (K (st.put dst (.fn f (caps.toList.map (st.ev G)))))
 | .slice t x lo hi mx=>Vv N (oh P t (st.ev G x) (lo.map (st.ev G)) (hi.map (st.ev G)) (mx.map (st.ev G))) st dst K
 | .fieldAddr t x i=>Vv N (se P t (st.ev G x) i) st dst K
 | .field t x i=>Vv N (yE P t (st.ev G x) i) st dst K
 | .indexAddr t x i=>Vv N (sf P t (st.ev G x) (st.ev G i)) st dst K
 | .index t x i=>Vv N (sE P t (st.ev G x) (st.ev G i)) st dst K
 | .extract x i=>Vv N (tm (st.ev G x) i) st dst K
 | .call c=>xJ P G T N (tag0+dst.getD 0) (am (dst.getD 0)) (am (2000000+dst.getD 0)) c.args c.argTypes st dst K c.callee
 | .alloc e=>Bi (cN P e) fun ti=>Chk (fI N dst) (K (st.new (tag0+dst.getD 0,st.n) ⟨ti.zero,true,false⟩ dst (.ptr (tag0+dst.getD 0,st.n) 0)))
 | .box _ x=>Chk (fI N dst&&(st.ev G x).known) (K (st.new (tag0+dst.getD 0,st.n) ⟨(st.ev G x).cs,true,false⟩ dst (.ptr (tag0+dst.getD 0,st.n) 0)))
 | .makeSlice t l c=>Tw P N (tag0+dst.getD 0) t (st.ev G l) (st.ev G c) st dst K
 | .buildSlice t n ps=>if am (dst.getD 0)then JU P G N (tag0+dst.getD 0) t n ps.toList st dst K else Vv N (uD P t n (ps.toList.map (·.1)) (ps.toList.map fun p=>st.ev G p.2)) st dst K
 | .store t a x=>Sk P G t a x st dst K
 |_=>False
section
variable {P:Program} {G:Nat→List FD} {T:Tbl} {N tag0:Nat} {am:Nat→Bool} {st:St} {K:St→Prop}
theorem iM {α:Type}{r:Option α}{k:α→Prop}(h:Bi r k):∃a,r=some a∧k a:=by
 cases r with
 |none=>exact h.elim
 |some a=>exact⟨a,rfl,h⟩
theorem AU (hT:b9 P G T){o:Oper}{r:Option (D×Prop)}(hr:jy P T o (st.ev G) st.H=r)(h:Vv N r st o.dst K):jN P G N tag0 o st K:=by obtain⟨⟨d,c⟩,rfl,h1,h2,h3⟩:=iM h;grind[B8]
theorem Rh {o:Oper}{r:Option (D×Prop)}(hr:gD P o (st.ev G) st.H=r)(h:Vv N r st o.dst K):∃d c,gD P o (st.ev G) st.H=some (d,c)∧fI N o.dst=true∧c∧K (st.put o.dst d):=by obtain⟨⟨d,c⟩,rfl,h1,h2,h3⟩:=iM h;grind
theorem mm {o:Oper}{r:Option (D×Prop)}(hr:gD P o (st.ev G) st.H=r)(h:Vv N r st o.dst K):jN P G N tag0 o st K:=by grind[Rh,jN]
theorem Xv {op:BinOp}{t:TypeId}{x:D}:kK P op t x (.full [])=none:=by simp_all[kK,D.toFD]
theorem z7 (hT:b9 P G T):∀(o:Oper),XO P G T N tag0 am st K o.dst o.op→jN P G N tag0 o st K:=by
 intro o h;obtain⟨dst,op,ty,pos,after,guard⟩:=o;cases op with
 |move x=>exact mm (r:=some (_,True)) rfl ⟨h.1,trivial,h.2⟩
 |assign x=>exact mm (r:=some (_,True)) rfl ⟨h.1,trivial,h.2⟩
 |pick c a b=>exact mm rfl h
 |build t ps=>obtain⟨h1,h2⟩:=h;simp_all[mm,gD]
 |load t a=>exact mm rfl h
 |nilCheck x=>exact mm rfl h
 |binOp op t x y yt=>
  simp only[XO]at h;split at h
  ·rename_i hn;have hy:y= .const (.slice none 0 0):=by
    unfold pC at hn;split at hn
    ·rfl
    ·cases hn
   subst hy;unfold jN;have e:gD P ⟨dst,.binOp op t x (.const (.slice none 0 0)) yt,ty,pos,after,guard⟩ (st.ev G) st.H=none:=Xv;rw[e];unfold wc at h;simp only;grind
  ·exact mm rfl h
 |unOp op t x=>exact mm rfl h
 |convert s t x=>exact mm rfl h
 |makeFunc f first caps=>
  cases f with
  |func f=>obtain⟨h1,h2⟩:=h;simp only[aS,beq_iff_eq]at h1;refine mm (r:=some (_,True)) ?_ ⟨h1.2,trivial,h2⟩;simp_all[gD]
  |_=>exact h.elim
 |slice t x lo hi mx=>exact mm rfl h
 |fieldAddr t x i=>exact mm rfl h
 |field t x i=>exact mm rfl h
 |indexAddr t x i=>exact mm rfl h
 |index t x i=>exact mm rfl h
 |extract x i=>exact mm rfl h
 |alloc e=>obtain⟨ti,h1,h2,h3⟩:=iM h;simp_all[jN,gD]
 |box e x=>obtain⟨h1,h2⟩:=h;simp_all[jN,gD]
 |makeSlice t l c=>
  obtain⟨te,h1,h2⟩:=iM h;obtain⟨n,h3,h4⟩:=iM h2;obtain⟨m,h5,h6,h7,h8⟩:=iM h4;unfold jN;simp only[gD];refine⟨h6,?_⟩;have e1:∀(d:D) n,tY d=some n→∃k,d= .fz (.i k n):=by
   intro d n hd;unfold tY at hd;split at hd
   ·simp_all
   ·cases hd
  grind
 |buildSlice t n ps=>
  simp only[XO]at h;split at h
  ·obtain⟨te,h1,h2,h3,h4⟩:=iM h;simp_all[jN,gD]
  ·exact AU hT (o:=⟨dst,.buildSlice t n ps,ty,pos,after,guard⟩) rfl h
 |store t a x=>
  obtain⟨ti,h1,h2⟩:=iM h;obtain⟨⟨id,k⟩,h3,h4⟩:=iM h2;obtain⟨ob,h5,h6,h7⟩:=iM h4;unfold jN;simp only[gD];have e:st.ev G a= .ptr id k:=by
   unfold xU at h3;split at h3
   ·grind
   ·cases h3
  have hd:dst=none:=h6.1;subst hd;refine⟨rfl,?_⟩;grind
 |call c=>
  obtain⟨callee,args,ts⟩:=c;simp only[XO]at h;cases callee with
  |value f=>
   obtain⟨⟨g,caps⟩,h1,h2⟩:=iM h;have e:st.ev G f= .fn g caps:=by
    unfold we at h1;split at h1
    ·grind
    ·cases h1
   simp only at h2;cases ht:T g with
   |some t=>rw[ht]at h2;obtain⟨xs,h3,h4⟩:=iM h2;refine AU hT (o:=⟨dst,.call ⟨.value f,args,ts⟩,ty,pos,after,guard⟩) (r:=t xs) ?_ h4;simp_all[jy,gD,z6]
   |none=>rw[ht]at h2;unfold jN;simp only[gD];refine⟨h2.1,?_⟩;rw[e];exact h2.2
  |invoke _ _=>exact h.elim
  |builtin b=>
   cases b with
   |len=>exact mm rfl h
   |max=>exact mm rfl h
   |min=>exact mm rfl h
   |append=>
    simp only[xJ]at h;unfold x5 at h;split at h
    case h_2=>grind
    rename_i x y t u ha ht;split at h
    ·obtain⟨te,h1,h2⟩:=iM h;obtain⟨ui,h3,h4,h5⟩:=iM h2;simp only[aS]at h4;unfold jN;have e:gD P ⟨dst,.call ⟨.builtin .append,args,ts⟩,ty,pos,after,guard⟩ (st.ev G) st.H=none:=by simp only[gD,nr]
     rw[e];refine⟨h4.1,?_⟩;simp only;rw[ha,ht];simp only;unfold sk;rw[h1,h3];simp only;rw[h4.2];cases hx:st.ev G x with
     |ow id es xs=>rw[hx]at h5;obtain⟨⟨ys,c⟩,h6,h7⟩:=iM h5;obtain⟨ob,h8,h9,h10⟩:=iM h7;obtain⟨cc,hsrc,hcc,hll⟩:=Lw h6 h9.2.2.1;rw[hsrc];exact⟨ys,ob,rfl,rfl,hcc,h8,h9.1,h9.2.1,hll,h9.2.2.2.1,h9.2.2.2.2,h10⟩
     |full xs=>
      rw[hx]at h5;cases hom:am (2000000+dst.getD 0)with
      |true=>obtain⟨⟨ys,c⟩,h6,h8,h9⟩:=iM (h5.1 hom);obtain⟨cc,hsrc,hcc,hll⟩:=Lw h6 h8.2.1;rw[hsrc];exact .inr ap
      |false=>obtain⟨⟨n,src,cc⟩,h6,h8,h9⟩:=iM (h5.2 hom);rw[h6];simp only at h8 ⊢;grind
     |arr id es b len=>rw[hx]at h5;obtain⟨⟨n,src,cc⟩,h6,h7⟩:=iM h5;obtain⟨ob,h8,h9,h10⟩:=iM h7;rw[h6];simp only at h9 ⊢;grind
     |_=>rw[hx]at h5;exact h5.elim
    ·refine AU hT (o:=⟨dst,.call ⟨.builtin .append,args,ts⟩,ty,pos,after,guard⟩) ?_ h;simp_all[jy,gD,nr]
   |_=>exact h.elim
 |_=>exact h.elim
def gv2 (want:Bool):D→Option Bool
 | .fz (.b x)=>some (x==want)
 | .tup []=>some false
 |_=>none
def nC (ops:Array Oper)(fr:Nat→D):Option (Nat×Bool)→Option Bool
 |none=>some true
 |some jw=>ob ((ops[jw.1]?).bind (·.dst)) fun t=>gv2 jw.2 (fr t)
def lH (P:Program)(G:Nat→List FD)(T:Tbl)(N tag0:Nat)(am:Nat→Bool)(ops:Array Oper):List Oper→(St→Prop)→St→Prop
 |[],K,st=>K st
 |o::os,K,st=>Bi (nC ops st.fr o.guard) fun b=>mA b (XO P G T N tag0 am st (lH P G T N tag0 am ops os K) o.dst o.op)
   (Chk (fI N o.dst) (lH P G T N tag0 am ops os K (st.put o.dst (.tup []))))
end
section
variable {P:Program} {G:Nat→List FD} {T:Tbl} {N tag0:Nat} {am:Nat→Bool} {st:St} {a:Act} {w:World} {L:Loc} {F:Nat→Nat→Prop} {K:St→Prop} {Q:Exit→St→Prop}
theorem uA {ops:Array Oper}{o:Oper}{b:Bool}(h:Rel G N st a w L F)(hb:nC ops st.fr o.guard=some b):Region.wanted o (yielded ops a.tmps)=b:=by
 cases hg:o.guard with
 |none=>simp_all[nC,Region.wanted]
 |some jw=>
  obtain⟨j,want⟩:=jw;rw[hg]at hb;simp only[nC]at hb;cases ht:(ops[j]?).bind (·.dst)with
  |none=>rw[ht]at hb;cases hb
  |some t=>
   rw[ht]at hb;simp only[ob]at hb;unfold gv2 at hb;split at hb
   ·grind[OS,TD]
   ·rename_i hx;have h1:=h.fr t;rw[hx]at h1;simp only[bw]at h1;obtain⟨vs,h2,_⟩:=h1;simp only[Region.wanted,hg,yielded,ht,nJ];rw[←bq hb];rw[cu]at h2;grind
   grind
theorem Oe (hT:b9 P G T){ops:Array Oper}{Q':Exit→Act→World→Prop}:∀(l:List Oper) (k:Nat),(∀j,l[j]?=ops[k+j]?)→∀(st:St) (a:Act) (w:World) (L:Loc) (F:Nat→Nat→Prop),Rel G N st a w L F→lH P G T N tag0 am ops l K st→
  (∀a' w',Sat G N st w L F K a' w'→Q' .normal a' w')→wpOps P ops Q' ((List.range l.length).map (k+·)) a w
 |[],k,_,st,a,w,L,F,h,hs,hQ=>by simp only[bj,List.range_zero,aQ,wpOps];exact hQ _ _ ⟨st,L,F,hs,h,dH.refl _ _ _ _ _⟩
 |o::l,k,hl,st,a,w,L,F,h,hs,hQ=>by
  have h0:ops[k]?=some o:=by have:=hl 0;simpa using this.symm
  have hrest:(List.range (o::l).length).map (k+·)=k::(List.range l.length).map (k+1+·):=by simp only[aN,gf,aM,bX,bJ];congr 1;apply bB;intro j _;simp;omega
  rw[hrest];simp only[wpOps,h0];have ih:∀(st1:St) (a1:Act) (w1:World) (L1:Loc) (F1:Nat→Nat→Prop),Rel G N st1 a1 w1 L1 F1→oY st w L F st1 w1 L1 F1→lH P G T N tag0 am ops l K st1→wpOps P ops Q' ((List.range l.length).map (k+1+·)) a1 w1:=
   fun st1 a1 w1 L1 F1 hr hst hs'=>Oe hT l (k+1) (fun j=>by have:=hl (j+1);grind) st1 a1 w1 L1 F1 hr hs' (fun a' w' hsat=>hQ _ _ (hsat.trans hst))
  obtain⟨b,hb,h1,h2⟩:=iM hs;rw[uA h hb];cases b with
  |true=>simp only[cJ];exact .inl (gm (fun a1 w1 ⟨st1,L1,F1,h1,h2,h3⟩=>ap) (zu h (z7 hT o (h1 rfl))))
  |false=>
   simp only[bK,cd];obtain⟨hd,hs'⟩:=h2 rfl;have hH:(st.put o.dst (.tup [])).H=st.H:=by cases o.dst<;>rfl
   have hn:(st.put o.dst (.tup [])).n=st.n:=by cases o.dst<;>rfl
   refine ih (st.put o.dst (.tup [])) (a.put o.dst undef) w L F (h.put (st':=st.put o.dst (.tup [])) (by rw[hH,hn];exact h.ok) (by simp_all[dH.refl]) hd qWa rfl) ?_ hs';simp_all[oY,dH.refl]
theorem JT (hT:b9 P G T){id:Nat}{ops:Array Oper}(h:lH P G T N tag0 am ops ops.toList (Q .normal) st):W P G N (.region id ops false) Q st:=by intro a w L F hr;refine wp_region ?_;have:=Oe hT (Q':=fun e a' w'=>Sat G N st w L F (Q e) a' w') ops.toList 0 ak st a w L F hr h (fun _ _ hs=>hs);simp_all
end
section
variable {P:Program} {G:Nat→List FD} {T:Tbl} {N tag0:Nat} {am:Nat→Bool} {st st2:St} {a:Act} {w:World} {L:Loc} {F:Nat→Nat→Prop} {K:St→Prop} {ops:Array Oper}
theorem Im {o:Oper}{ev ev':Operand→D}{H:bR}(h:∀x∈o.op.operands,ev x=ev' x):gD P o ev H=gD P o ev' H:=by
 obtain⟨dst,op,type,pos,after,guard⟩:=o;cases op<;>simp only[Op.operands]at h<;>simp only[gD]
 case build t ps=>
  have h':∀p∈ps.toList,ev p.2=ev' p.2:=ap
  have e1:(ps.toList.all fun p=>(ev p.2).known)=(ps.toList.all fun p=>(ev' p.2).known):=by rw[gR,cB,cB];exact ap
  grind[List.map_congr_left]
 case makeFunc fn first caps=>
  have e:caps.toList.map ev=caps.toList.map ev':=by simp_all[bB]
  cases fn<;>simp only[e]
 case call c=>
  grind[List.map_congr_left,Call.operands]
 case slice t x lo hi mx=>cases lo<;>cases hi<;>cases mx<;>simp_all
 all_goals(first|rfl|(simp_all;done))
def nR:Op→Bool
 | .load _ _=>false
 |_=>true
theorem XF {o:Oper}{ev:Operand→D}{H H':bR}(h:nR o.op=true):gD P o ev H=gD P o ev H':=by obtain⟨dst,op,type,pos,after,guard⟩:=o;cases op<;>first|rfl|(simp[nR]at h;done)|(rename_i f _ _;cases f<;>rfl)
theorem Jm {o:Oper}{ev:Operand→D}{H H':bR}(h:nR o.op=true):jy P T o ev H=jy P T o ev H':=by unfold jy;rw[XF h]
theorem Mp {c:Call}{ev ev':Operand→D}(h:∀x∈c.operands,ev x=ev' x):c.args.toList.map ev=c.args.toList.map ev':=
 (by simp_all[Call.operands])
theorem Xb {o:Oper}{ev ev':Operand→D}{H:bR}(h:∀x∈o.op.operands,ev x=ev' x):jy P T o ev H=jy P T o ev' H:=by
 unfold jy;rw[Im h];obtain⟨dst,op,type,pos,after,guard⟩:=o;cases gD P ⟨dst,op,type,pos,after,guard⟩ ev' H with
 |some r=>rfl
 |none=>
  cases op<;>simp only
  case buildSlice t n ps=>
   grind[List.map_congr_left,Op.operands]
  case call c=>
   have e:=Mp (c:=c) h;grind[Op.operands,Call.operands]
def gO (fr:Nat→D)(dst:Option Tmp)(e:D):Nat→D:=
 match dst with
 |some t=>upd fr t e
 |none=>fr
def xP (fr fr2:Nat→D)(dst:Option Tmp)(s s2:St):Prop:=∃e H n,s=⟨gO fr dst e,H,n⟩∧s2=⟨gO fr2 dst e,H,n⟩
theorem uS {fr fr2:Nat→D}{H:bR}{n:Nat}{dst:Option Tmp}{e:D}:xP fr fr2 dst (St.put ⟨fr,H,n⟩ dst e) (St.put ⟨fr2,H,n⟩ dst e):=by refine⟨e,H,n,?_,?_⟩<;>cases dst<;>rfl
theorem so {fr fr2:Nat→D}{H:bR}{n:Nat}{dst:Option Tmp}{e:D}{id:Id}{ob:O}:xP fr fr2 dst (St.new ⟨fr,H,n⟩ id ob dst e) (St.new ⟨fr2,H,n⟩ id ob dst e):=by refine⟨e,cp H id (some ob),n+1,?_,?_⟩<;>cases dst<;>rfl
theorem VW {fr fr2:Nat→D}{H:bR}{n:Nat}{tag:Nat}{dst:Option Tmp}{t u:TypeId}{x y:D}{K2:St→Prop}(hk:∀s s2,K s→xP fr fr2 dst s s2→K2 s2)(h:sk P ⟨fr,H,n⟩ tag dst t u x y K):
  sk P ⟨fr2,H,n⟩ tag dst t u x y K2:=by
 unfold sk at h ⊢;split at h
 case h_2=>omega
 simp only at h ⊢;split at h
 ·rcases h with⟨h1,h2,h3,h4,h5,hK⟩|⟨ys,h1,h2,h3,h4,hK⟩|⟨ys,h0,h0',h1,h2,h3,h4,hK⟩
  ·exact .inl ⟨h1,h2,h3,h4,h5,hk _ _ (hK) so⟩
  ·exact .inr (.inl ⟨ys,h1,h2,h3,h4,hk _ _ (hK) uS⟩)
  ·exact .inr (.inr ⟨ys,h0,h0',h1,h2,h3,h4,hk _ _ (hK) so⟩)
 ·obtain⟨ys,ob,h0,h0',h1,h2,h3,h4,h5,h6,h7,hK⟩:=h;exact⟨ys,ob,h0,h0',h1,h2,h3,h4,h5,h6,h7,hk _ _ (hK) so⟩
 ·split at h
  case h_2=>omega
  obtain⟨h1,h2,h3,h4,h5,h6,hK⟩:=h;exact⟨h1,h2,h3,h4,h5,h6,hk _ _ (hK) so⟩
 omega
theorem uC {fr fr2:Nat→D}{H:bR}{n:Nat}{o:Oper}(he:∀x∈o.op.operands,St.ev G ⟨fr,H,n⟩ x=St.ev G ⟨fr2,H,n⟩ x){K2:St→Prop}(hk:∀s s2,K s→xP fr fr2 o.dst s s2→K2 s2)(h:jN P G N tag0 o ⟨fr,H,n⟩ K):
  jN P G N tag0 o ⟨fr2,H,n⟩ K2:=by
 unfold jN at h ⊢;simp only at h ⊢;rw[←Im he];cases hev:gD P o (St.ev G ⟨fr,H,n⟩) H with
 |some r=>obtain⟨d,c⟩:=r;rw[hev]at h;obtain⟨h1,h2,h3⟩:=h;exact⟨h1,h2,hk _ _ (h3) uS⟩
 |none=>
  rw[hev]at h;obtain⟨hd,h⟩:=h;refine⟨hd,?_⟩;obtain⟨dst,op,type,pos,after,guard⟩:=o;cases op<;>simp only[Op.operands]at he<;>simp only at h ⊢
  case alloc e=>
   split at h
   ·exact hk _ _ h so
   omega
  case box e x=>
   rw[←he x ak];exact⟨h.1,hk _ _ (h.2) so⟩
  case makeSlice t l c=>
   rw[←he l ak,←he c ak];split at h
   ·obtain⟨h1,h2,h3,h4,h5⟩:=h;exact⟨h1,h2,h3,h4,hk _ _ (h5) so⟩
   omega
  case buildSlice t k ps=>
   have e2:(ps.toList.map fun p=>St.ev G ⟨fr,H,n⟩ p.2)=(ps.toList.map fun p=>St.ev G ⟨fr2,H,n⟩ p.2):=by grind[List.map_congr_left]
   have e3:∀m,(ps.toList.all fun p=>rk m (St.ev G ⟨fr,H,n⟩ p.2))=(ps.toList.all fun p=>rk m (St.ev G ⟨fr2,H,n⟩ p.2)):=fun m=>by have:=a8 (fun l=>l.all (rk m)) e2;simp_all
   have e4:(ps.toList.flatMap fun p=>(St.ev G ⟨fr,H,n⟩ p.2).cs)=(ps.toList.flatMap fun p=>(St.ev G ⟨fr2,H,n⟩ p.2).cs):=by have:=a8 (fun l=>l.flatMap D.cs) e2;simp only[List.flatMap_map]at this;exact this
   rw[←e2,←e4];simp only[←e3];rcases h with h|h
   ·refine .inl ?_;split at h
    ·obtain⟨h1,h2,h3,h4,h5⟩:=h;exact⟨h1,h2,h3,h4,hk _ _ (h5) uS⟩
    omega
   ·refine .inr ?_;split at h
    ·obtain⟨h1,h2,h3,h4,h5⟩:=h;exact⟨h1,h2,h3,h4,hk _ _ (h5) so⟩
    omega
  case store t p x=>
   rw[←he p ak,←he x ak];split at h
   ·split at h
    ·obtain⟨h1,h2,h3,h4,h5,h6,h7⟩:=h;subst h1;exact⟨rfl,h2,h3,h4,h5,h6,hk _ _ h7 ⟨.junk,_,_,rfl,rfl⟩⟩
    omega
   omega
  case binOp op t x y yt=>
   split at h<;>(try(rename_i heq;cases heq;done))<;>(try exact h.elim);rename_i heq;cases heq;rw[←he x ak];split at h
   ·exact fun b hb=>hk _ _ (h b hb) uS
   ·exact fun b hb=>hk _ _ (h b hb) uS
   omega
  case call c=>
   have e:=Mp (c:=c) he;cases hc:c.callee with
   |value f=>
    rw[hc]at h;simp only at h ⊢;rw[←he f (by simp[Call.operands,hc]),←e];split at h
    ·exact jl h fun d H n hK=>hk _ _ hK uS
    omega
   |invoke r m=>grind
   |builtin b=>grind[VW]
  all_goals exact h
theorem nx {dst:Option Tmp}{d:D}:st.put dst d=⟨gO st.fr dst d,st.H,st.n⟩:=by cases dst<;>rfl
theorem DK {o:Oper}{dst:Option Tmp}{fr:Nat→D}{H H':bR}{n n':Nat}{e:D}(h:∀d,dst=some d→d∉o.looksAt ops):∀x∈o.op.operands,St.ev G ⟨gO fr dst e,H,n⟩ x=St.ev G ⟨fr,H',n'⟩ x:=by
 intro x hx;cases x with
 |tmp t=>
  simp only[St.ev];cases dst with
  |none=>rfl
  |some d=>simp only[gO,upd];rw[az];rintro rfl;exact h _ rfl (cx _ (List.mem_filterMap.2 ⟨.tmp t,ap,rfl⟩))
 |_=>rfl
theorem yZ {o:Oper}{dst:Option Tmp}{fr:Nat→D}{e:D}(h:∀d,dst=some d→d∉o.looksAt ops):nC ops (gO fr dst e) o.guard=nC ops fr o.guard:=by
 cases hg:o.guard with
 |none=>rfl
 |some jw=>
  obtain⟨j,want⟩:=jw;simp only[nC];cases ht:(ops[j]?).bind (·.dst)with
  |none=>rfl
  |some t=>
   simp only[ob];cases dst with
   |none=>rfl
   |some d=>simp only[gO,upd];grind[Oper.looksAt]
theorem uQ {x y:Option Tmp}{fr:Nat→D}{u v:D}(h:∀d,x=some d→y≠some d):gO (gO fr x u) y v=gO (gO fr y v) x u:=by
 cases x with
 |none=>rfl
 |some d=>
  cases y with
  |none=>rfl
  |some e=>
   have hne:d≠e:=ap
   funext j;simp only[gO,upd];grind
def qv (P:Program)(G:Nat→List FD)(T:Tbl)(ops:Array Oper)(o:Oper)(st:St):Option (D×Prop):=
 match nC ops st.fr o.guard with
 |some true=>jy P T o (st.ev G) st.H
 |some false=>some (.tup [],True)
 |none=>none
def iG (P:Program)(G:Nat→List FD)(T:Tbl)(N tag0:Nat)(ops:Array Oper)(q:Bool)(o:Oper)(st:St)(K:St→Prop):Prop:=
 if q then∃d c,qv P G T ops o st=some (d,c)∧fI N o.dst=true∧c∧K (st.put o.dst d)
 else match nC ops st.fr o.guard with
  |some true=>jN P G N tag0 o st K
  |some false=>fI N o.dst=true∧K (st.put o.dst (.tup []))
  |none=>False
theorem vm {o:Oper}{dst:Option Tmp}{fr:Nat→D}{H H':bR}{n n':Nat}{e:D}(h:∀d,dst=some d→d∉o.looksAt ops)(hh:H'=H∨nR o.op=true):
  qv P G T ops o ⟨gO fr dst e,H',n'⟩=qv P G T ops o ⟨fr,H,n⟩:=by
 unfold qv;simp only;rw[yZ h,Xb (DK (H':=H) (n':=n) h)];grind[Jm]
theorem C1 {oi oj:Oper}{q:Bool}{fr:Nat→D}{H:bR}{n:Nat}{d:D}{c:Prop}(hap:oi.apart ops oj=true)(hh:q=true∨nR oi.op=true)(hy:qv P G T ops oi ⟨fr,H,n⟩=some (d,c))
  (h:iG P G T N tag0 ops q oj ⟨gO fr oi.dst d,H,n⟩ K):iG P G T N tag0 ops q oj ⟨fr,H,n⟩ (fun s=>qv P G T ops oi s=some (d,c)∧K ⟨gO s.fr oi.dst d,s.H,s.n⟩):=by
 obtain⟨h1,h2,h3⟩:=Oper.apart_spec hap;unfold iG at h ⊢;have eput:∀(e:D),(St.put ⟨fr,H,n⟩ oj.dst e)=⟨gO fr oj.dst e,H,n⟩:=fun e=>nx;have eput2:∀(e:D),(St.put ⟨gO fr oi.dst d,H,n⟩ oj.dst e)=⟨gO (gO fr oj.dst e) oi.dst d,H,n⟩:=fun e=>by grind[nx,uQ]
 have hyj:∀e,qv P G T ops oi ⟨gO fr oj.dst e,H,n⟩=some (d,c):=by grind[vm]
 split
 ·rename_i hq;simp only[hq,cJ]at h;grind[vm]
 ·rename_i hq;simp only[hq]at h;simp only at h ⊢;rw[yZ h1]at h;split
  ·rename_i hg;simp only[hg]at h;refine uC (fr2:=fr) (DK h1) ?_ h;rintro s s2 hK ⟨e,H',n',rfl,rfl⟩;grind[vm,uQ]
  all_goals grind
def pN (P:Program)(G:Nat→List FD)(T:Tbl)(N tag0:Nat)(ops:Array Oper)(q:Nat→Bool)(K:St→Prop):Nat→Array Bool→St→Prop
 |0,listed,st=>Region.ready .any ops listed=[]∧K st
 |fuel+1,listed,st=>(Region.ready .any ops listed=[]→K st)∧
  ∀i∈Region.ready .any ops listed,∀o,ops[i]?=some o→iG P G T N tag0 ops (q i) o st (pN P G T N tag0 ops q K fuel (listed.setIfInBounds i true))
theorem Qn (hT:b9 P G T){Q':Exit→Act→World→Prop}{K':Act→World→Prop}{i:Nat}{o:Oper}{q:Bool}(ho:ops[i]?=some o)(h:Rel G N st a w L F)(hs:iG P G T N tag0 ops q o st K)
  (hk:∀a' w',Sat G N st w L F K a' w'→K' a' w'):wpOp P ops Q' i K' a w:=by
 unfold wpOp;simp only[ho];have sym:∀{K},jN P G N tag0 o st K→(∀a' w',Sat G N st w L F K a' w'→K' a' w')→o.wp P a w K' Q':=fun h1 h2=>gm h2 (zu h h1);have skip:fI N o.dst=true→K (st.put o.dst (.tup []))→K' (a.put o.dst undef) w:=by
  intro hd hK;have hH:(st.put o.dst (.tup [])).H=st.H:=by cases o.dst<;>rfl
  have hn:(st.put o.dst (.tup [])).n=st.n:=by cases o.dst<;>rfl
  refine hk _ _ ⟨st.put o.dst (.tup []),L,F,hK,h.put (st':=st.put o.dst (.tup [])) (by rw[hH,hn];exact h.ok) (by simp_all[dH.refl]) hd qWa rfl,?_⟩;unfold oY;rw[hH,hn];exact dH.refl _ _ _ _ _
 unfold iG at hs;split at hs
 ·obtain⟨d,c,h1,h2,h3,h4⟩:=hs;unfold qv at h1;split at h1
  ·rename_i hg;rw[uA h hg];simp only[cJ];exact .inl (sym (B8 hT h2 h1 h3 h4) hk)
  ·rename_i hg;rw[uA h hg];grind
  grind
 ·split at hs
  ·rename_i hg;rw[uA h hg];grind
  ·rename_i hg;rw[uA h hg];grind
  grind
theorem Ds (hT:b9 P G T){q:Nat→Bool}{Q':Exit→Act→World→Prop}:∀(fuel:Nat) (listed:Array Bool) (st:St) (a:Act) (w:World) (L:Loc) (F:Nat→Nat→Prop),Rel G N st a w L F→pN P G T N tag0 ops q K fuel listed st→
  (∀a' w',Sat G N st w L F K a' w'→Q' .normal a' w')→wpAny P .any ops Q' fuel listed a w
 |0,listed,st,a,w,L,F,h,hs,hQ=>⟨hs.1,hQ _ _ ⟨st,L,F,hs.2,h,dH.refl _ _ _ _ _⟩⟩
 |fuel+1,listed,st,a,w,L,F,h,hs,hQ=>by refine⟨fun hr=>hQ _ _ ⟨st,L,F,hs.1 hr,h,dH.refl _ _ _ _ _⟩,fun i hi=>?_⟩;obtain⟨_,o,ho,_⟩:=iB.1 hi;refine Qn hT ho h (hs.2 i hi o ho) ?_;rintro a' w' ⟨st1,L1,F1,h1,h2,h3⟩;exact Ds hT fuel _ st1 a' w' L1 F1 h2 h1 fun a2 w2 hsat=>hQ _ _ (hsat.trans h3)
theorem XR {q:Nat→Bool}{i:Nat}{oi:Oper}{d:D}{c:Prop}(hi:ops[i]?=some oi)(hqi:q i=true)(hc:c)(hd:fI N oi.dst=true)(B:Nat→Bool)
  (hB:∀j oj,ops[j]?=some oj→B j=true→∃e∈oj.after,Region.binds .any e=true∧(e.on=i∨B e.on=true)):
  ∀(fuel:Nat) (listed:Array Bool) (st:St),(∀j,B j=true→listed.getD j false=false)→
   (∀j oj,ops[j]?=some oj→j≠i→listed.getD j true=false→B j=false→oi.apart ops oj=true∧(q j=true∨nR oi.op=true))→
   i∈Region.ready .any ops listed→qv P G T ops oi st=some (d,c)→
   pN P G T N tag0 ops q K fuel (listed.setIfInBounds i true) (st.put oi.dst d)→pN P G T N tag0 ops q K (fuel+1) listed st:=by
 intro fuel;have take:∀{st K},qv P G T ops oi st=some (d,c)→K (st.put oi.dst d)→iG P G T N tag0 ops (q i) oi st K:=by intro st K hy hK;unfold iG;rw[aF hqi];exact ap
 induction fuel with
 |zero=>
  intro listed st _ _ hr hy H;refine⟨ap,fun j hj oj hoj=>?_⟩;by_cases hji:j=i
  ·grind
  ·have:=eW hj hji;rw[H.1]at this;grind
 |succ fuel ih=>
  intro listed st hBl hfree hr hy H;refine⟨ap,fun j hj oj hoj=>?_⟩;by_cases hji:j=i
  ·grind
  ·have h1:=H.2 j (eW hj hji) oj hoj;obtain⟨hjun,oj',hoj',hall⟩:=iB.1 hj;rw[hoj]at hoj';obtain rfl:=bq hoj';have hnl:listed.getD i false=false:=by
    have h0:=(iB.1 hr).1;rcases aA i listed.size with h'|h'
    ·grind
    ·grind
   have hBj:B j=false:=by
    cases hb:B j with
    |false=>rfl
    |true=>grind
   obtain⟨hap,hh⟩:=hfree j oj hoj hji hjun hBj;have hBl':∀k,B k=true→(listed.setIfInBounds j true).getD k false=false:=fun k hk=>by
    by_cases hjk:j=k
    all_goals simp_all
   have hfree':∀k ok,ops[k]?=some ok→k≠i→(listed.setIfInBounds j true).getD k true=false→
     B k=false→oi.apart ops ok=true∧(q k=true∨nR oi.op=true):=fun k ok hk hki hun hno=>by
    refine hfree k ok hk hki ?_ hno;by_cases hjk:j=k
    ·grind
    ·rw[getD_set_ne true hjk]at hun;omega
   rw[nx]at h1;have h2:=C1 hap hh (fr:=st.fr) (H:=st.H) (n:=st.n) hy h1;have mono:∀{K1 K2:St→Prop},(∀s,K1 s→K2 s)→iG P G T N tag0 ops (q j) oj st K1→iG P G T N tag0 ops (q j) oj st K2:=by
    intro K1 K2 hk hs;unfold iG at hs ⊢;split
    ·grind
    ·rename_i hq;simp only[hq]at hs;split
     ·rename_i hg;simp[hg]at hs;refine uC (fr:=st.fr) (fr2:=st.fr) (fun _ _=>rfl) ?_ hs;rintro s s2 hK ⟨e,H',n',rfl,rfl⟩;grind
     all_goals grind
   refine mono (fun s h3=>ih (listed.setIfInBounds j true) s hBl' hfree' (eW hr (Ne.symm hji)) h3.1 ?_) h2;grind[Array.setIfInBounds_comm,nx]
def jM (am:Nat→Bool)(T:Tbl)(o:Oper):Bool:=
 match o.op with
 | .move _| .assign _| .pick _ _ _| .build _ _| .load _ _| .nilCheck _| .unOp _ _ _| .convert _ _ _| .slice _ _ _ _ _| .fieldAddr _ _ _| .field _ _ _| .indexAddr _ _ _| .index _ _ _| .extract _ _=>true
 | .buildSlice _ _ _=> !am (o.dst.getD 0)
 | .makeFunc (.func _) _ _=>true
 | .binOp _ _ _ y _=> !pC y
 | .call c=>
  match c.callee with
  | .value (.func f)=>(T f).isSome
  | .builtin .append=> !am (o.dst.getD 0)
  | .builtin .len| .builtin .max| .builtin .min=>true
  |_=>false
 |_=>false
theorem mi {o:Oper}{r:Option (D×Prop)}(hr:jy P T o (st.ev G) st.H=r)(h:Vv N r st o.dst K):∃d c,jy P T o (st.ev G) st.H=some (d,c)∧fI N o.dst=true∧c∧K (st.put o.dst d):=by obtain⟨⟨d,c⟩,rfl,h1,h2,h3⟩:=iM h;grind
theorem np {o:Oper}{r:Option (D×Prop)}(hr:gD P o (st.ev G) st.H=r)(hn:gD P o (st.ev G) st.H=none→jy P T o (st.ev G) st.H=none):jy P T o (st.ev G) st.H=r:=by grind[jy]
theorem Gt:∀(o:Oper),jM am T o=true→XO P G T N tag0 am st K o.dst o.op→∃d c,jy P T o (st.ev G) st.H=some (d,c)∧fI N o.dst=true∧c∧K (st.put o.dst d):=by
 intro o hq h;obtain⟨dst,op,ty,pos,after,guard⟩:=o;cases op with
 |move x=>exact⟨_,True,rfl,h.1,trivial,h.2⟩
 |assign x=>exact⟨_,True,rfl,h.1,trivial,h.2⟩
 |pick c a b=>exact mi (np rfl qQk) h
 |build t ps=>obtain⟨h1,h2⟩:=h;refine mi (np ?_ qQk) h2;simp_all[gD]
 |load t a=>exact mi (np rfl qQk) h
 |nilCheck x=>exact mi (np rfl qQk) h
 |binOp op t x y yt=>simp only[jM,iI]at hq;simp only[XO,hq]at h;exact mi (np rfl qQk) h
 |unOp op t x=>exact mi (np rfl qQk) h
 |convert s t x=>exact mi (np rfl qQk) h
 |makeFunc f first caps=>
  cases f with
  |func f=>obtain⟨h1,h2⟩:=h;simp only[aS,beq_iff_eq]at h1;refine⟨_,True,?_,h1.2,trivial,h2⟩;simp_all[jy,gD]
  |_=>exact h.elim
 |slice t x lo hi mx=>exact mi (np rfl qQk) h
 |fieldAddr t x i=>exact mi (np rfl qQk) h
 |field t x i=>exact mi (np rfl qQk) h
 |indexAddr t x i=>exact mi (np rfl qQk) h
 |index t x i=>exact mi (np rfl qQk) h
 |extract x i=>exact mi (np rfl qQk) h
 |buildSlice t n ps=>simp only[jM,iI]at hq;simp only[XO,hq]at h;exact mi (o:=⟨dst,.buildSlice t n ps,ty,pos,after,guard⟩) rfl h
 |call c=>
  obtain⟨callee,args,ts⟩:=c;simp only[XO]at h;cases callee with
  |value f=>
   cases f with
   |func g=>
    simp only[jM]at hq;simp only[xJ]at h;obtain⟨⟨g',caps⟩,h1,h2⟩:=iM h;simp only[St.ev,we,aL,aY]at h1;obtain⟨rfl,rfl⟩:=h1;cases ht:T g with
    |none=>grind
    |some t=>simp only[ht]at h2;obtain⟨xs,h3,h4⟩:=iM h2;refine mi (o:=⟨dst,.call ⟨.value (.func g),args,ts⟩,ty,pos,after,guard⟩) (r:=t xs) ?_ h4;simp_all[jy,gD,St.ev,z6]
   |_=>cases hq
  |invoke _ _=>cases hq
  |builtin b=>
   cases b with
   |len=>exact mi (np (o:=⟨dst,.call ⟨.builtin .len,args,ts⟩,ty,pos,after,guard⟩) rfl qQk) h
   |max=>exact mi (np (o:=⟨dst,.call ⟨.builtin .max,args,ts⟩,ty,pos,after,guard⟩) rfl qQk) h
   |min=>exact mi (np (o:=⟨dst,.call ⟨.builtin .min,args,ts⟩,ty,pos,after,guard⟩) rfl qQk) h
   |append=>
    simp only[jM,iI]at hq;simp only[xJ]at h;unfold x5 at h;split at h
    case h_2=>grind
    rename_i x y t u ha ht;simp only[hq]at h;refine mi (o:=⟨dst,.call ⟨.builtin .append,args,ts⟩,ty,pos,after,guard⟩) ?_ h;simp_all[jy,gD,nr]
   |_=>cases hq
 |_=>cases hq
def jU (ops:Array Oper)(i:Nat):List Nat:=
 (List.range ops.size).foldl (fun acc j=>match ops[j]? with
  |some oj=>if oj.after.any (fun e=>Region.binds .any e&&(e.on==i||acc.contains e.on))then j::acc else acc
  |none=>acc) []
def D5 (am:Nat→Bool)(T:Tbl)(ops:Array Oper)(listed:Array Bool)(i:Nat):Bool:=
 match ops[i]? with
 |none=>false
 |some oi=>
  ((jU ops i).all fun j=> !listed.getD j false&&match ops[j]? with
   |some oj=>oj.after.any (fun e=>Region.binds .any e&&(e.on==i||(jU ops i).contains e.on))
   |none=>true)&&
  (List.range ops.size).all fun j=>j==i||listed.getD j true||(jU ops i).contains j||match ops[j]? with
   |some oj=>oi.apart ops oj&&(jM am T oj||nR oi.op)
   |none=>true
def vB (am:Nat→Bool)(T:Tbl)(ops:Array Oper):Nat→Nat→Array Bool→Bool
 |0,_,listed=>(Region.ready .any ops listed).isEmpty
 |m+1,k,listed=>(match ops[k]? with
   |some o=>if jM am T o then(Region.ready .any ops listed).contains k&&D5 am T ops listed k else Region.ready .any ops listed==[k]
   |none=>false)&&vB am T ops m (k+1) (listed.setIfInBounds k true)
def DW (am:Nat→Bool)(T:Tbl)(ops:Array Oper):Bool:=vB am T ops ops.size 0 (Array.replicate ops.size false)
theorem Xe {listed:Array Bool}{i:Nat}{oi:Oper}(hi:ops[i]?=some oi)(h:D5 am T ops listed i=true):
  (∀j oj,ops[j]?=some oj→(jU ops i).contains j=true→∃e∈oj.after,Region.binds .any e=true∧(e.on=i∨(jU ops i).contains e.on=true))∧
  (∀j,(jU ops i).contains j=true→listed.getD j false=false)∧
  (∀j oj,ops[j]?=some oj→j≠i→listed.getD j true=false→(jU ops i).contains j=false→oi.apart ops oj=true∧(jM am T oj=true∨nR oi.op=true)):=by
 unfold D5 at h;grind
theorem zv (hT:b9 P G T):∀(l:List Oper) (k:Nat) (listed:Array Bool) (st:St),(∀j,l[j]?=ops[k+j]?)→vB am T ops l.length k listed=true→lH P G T N tag0 am ops l K st→
  pN P G T N tag0 ops (fun i=>((ops[i]?).map (jM am T)).getD false) K l.length listed st
 |[],k,listed,st,_,hd,hs=>by simp only[bj,vB,cK]at hd;exact⟨hd,hs⟩
 |o::l,k,listed,st,hl,hd,hs=>by
  have h0:ops[k]?=some o:=by have:=hl 0;simpa using this.symm
  have hl':∀j,l[j]?=ops[k+1+j]?:=fun j=>by have:=hl (j+1);grind
  simp only[aN,vB,h0,aS]at hd;obtain⟨hd1,hd2⟩:=hd;obtain⟨b,hb,h1,h2⟩:=iM hs;simp only[aN];by_cases hq:jM am T o=true
  ·rw[aF hq]at hd1;simp only[aS]at hd1;have hqk:((ops[k]?).map (jM am T)).getD false=true:=by rw[h0];exact hq
   have hex:∃d c,qv P G T ops o st=some (d,c)∧fI N o.dst=true∧c∧lH P G T N tag0 am ops l K (st.put o.dst d):=by
    cases b with
    |true=>grind[Gt,qv]
    |false=>obtain⟨g1,g2⟩:=h2 rfl;exact⟨.tup [],True,by simp only[qv,hb],g1,trivial,g2⟩
   obtain⟨d,c,g1,g2,g3,g4⟩:=hex;obtain⟨f1,f2,f3⟩:=Xe h0 hd1.2;refine XR h0 hqk g3 g2 (fun j=>(jU ops k).contains j) f1 l.length listed st f2 ?_ ap g1 (zv hT l (k+1) _ _ hl' hd2 g4);grind
  ·rw[az hq]at hd1;have hr:Region.ready .any ops listed=[k]:=by simpa using hd1
   refine⟨ap,fun i hi o' ho'=>?_⟩;rw[hr]at hi;obtain rfl:i=k:=ap
   rw[h0]at ho';obtain rfl:=bq ho';unfold iG;have:(((ops[i]?).map (jM am T)).getD false)=false:=by rw[h0];simpa using hq
   simp only[this];simp only[hb];cases b with
   |true=>refine uC (fr:=st.fr) (fr2:=st.fr) (K:=fun s=>lH P G T N tag0 am ops l K s) (fun _ _=>rfl) ?_ (z7 hT o (h1 rfl));rintro s s2 hK ⟨e,H',n',rfl,rfl⟩;exact zv hT l (i+1) _ _ hl' hd2 hK
   |false=>obtain⟨g1,g2⟩:=h2 rfl;grind[zv hT l (i+1) _ _ hl' hd2 g2]
theorem Nu {w':World}(hh:w'.heap=w.heap)(b k:Nat):World.at w' b k=World.at w b k:=xk (by rw[hh]) k
theorem zd {w':World}(hh:w'.heap=w.heap){U:Id→Prop}:Ext w L F U w' L F U:=
 ⟨fun _ h=>h,fun _ _=>rfl,fun _ _ h=>h,fun b k _=>Nu hh b k,ap,ap⟩
theorem OkW.heap {w':World}{H:bR}{U:Id→Prop}(hok:OkW G w L F U H)(hh:w'.heap=w.heap):OkW G w' L F U H:=by refine⟨by rw[hh];exact hok.fb,fun id o ho=>?_,hok.inj,rH (fun _ _ h=>h) (by grind[Nu]) hok.glob⟩;obtain⟨h1,h2⟩:=hok.live id o ho;exact⟨h1,h2.ext (zd hh) h1 (by grind[iL])⟩
theorem Ns (hm:P.follows .mixedOrders=true)(hT:b9 P G T){Q:Exit→St→Prop}{id:Nat}(hd:DW am T ops=true)(h:lH P G T N tag0 am ops ops.toList (Q .normal) st):W P G N (.region id ops true) Q st:=by
 intro a w L F hr;refine wp_region_any hm ?_;have hr':Rel G N st a {w with drawn:=w.drawn+1} L F:=⟨hr.ok.heap rfl,hr.size,fun t=>(hr.fr t).ext (by grind[zd]),hr.nd⟩;have hst:oY st w L F st {w with drawn:=w.drawn+1} L F:=⟨fun _ h=>h,fun _ _=>rfl,fun _ _ h=>h,aI _,fun _ _ _=>rfl,fun _ _ _ _=>rfl,ap,ap,ap,rfl,rfl,rfl,Nat.le_succ _⟩;have hd':vB am T ops ops.toList.length 0 (Array.replicate ops.size false)=true:=by simpa[DW]using hd
 have:=Ds hT (Q':=fun e a' w'=>Sat G N st w L F (Q e) a' w') _ _ st a _ L F hr' (zv hT ops.toList 0 _ st ak hd' h) (fun _ _ hs=>hs.trans hst);simpa using this
end
section
variable {P:Program} {G:Nat→List FD} {T:Tbl} {N tag0:Nat} {am:Nat→Bool} {st:St} {a:Act} {w:World} {L:Loc} {F:Nat→Nat→Prop} {K:St→Prop} {Q:Exit→St→Prop}
def Be (R:St→Prop)(Q:Exit→St→Prop):Exit→St→Prop
 | .normal,st=>R st
 | .exit i,st=>Q (.exit i) st
 | .goto l,st=>Q (.goto l) st
 | .ret,st=>Q .ret st
 | .panic c,st=>Q (.panic c) st
 | .outgrown,st=>Q .outgrown st
def xI (x y:Prop):D→Prop
 | .fz (.b t)=>mA t x y
 |_=>False
def XC (P:Program)(G:Nat→List FD)(T:Tbl)(N tag0:Nat)(am:Nat→Bool):Code→(Exit→St→Prop)→St→Prop
 | .skip,Q,st=>Q .normal st
 | .seq x y,Q,st=>XC P G T N tag0 am x (Be (XC P G T N tag0 am y Q) Q) st
 | .cond c x y,Q,st=>xI (XC P G T N tag0 am x Q st) (XC P G T N tag0 am y Q st) (st.ev G c)
 | .block id c,Q,st=>XC P G T N tag0 am c (tJ id Q) st
 | .exit id,Q,st=>Q (.exit id) st
 | .ret,Q,st=>Q .ret st
 | .region _ ops false,Q,st=>lH P G T N tag0 am ops ops.toList (Q .normal) st
 | .region id ops true,Q,st=>mA (am (1000000+id)) (W P G N (.region id ops true) Q st) (lH P G T N tag0 am ops ops.toList (Q .normal) st)
 |c,Q,st=>W P G N c Q st
def mc (am:Nat→Bool)(T:Tbl):Code→Bool
 | .seq x y=>mc am T x&&mc am T y
 | .cond _ x y=>mc am T x&&mc am T y
 | .block _ c=>mc am T c
 | .region id ops true=>am (1000000+id)||DW am T ops
 |_=>true
theorem tM (hm:P.follows .mixedOrders=true)(hT:b9 P G T):∀(c:Code) (Q:Exit→St→Prop) (st:St),mc am T c=true→XC P G T N tag0 am c Q st→W P G N c Q st
 | .skip,_,_,_,h=>EP h
 | .seq x y,Q,st,hd,h=>by
  simp only[XC]at h;simp only[mc,aS]at hd;refine Fx (EO (tM hm hT x _ st hd.1 h) fun e st1 h1=>?_);cases e with
  |normal=>exact tM hm hT y Q st1 hd.2 h1
  |_=>exact h1
 | .cond c x y,Q,st,hd,h=>by
  simp only[XC]at h;simp only[mc,aS]at hd;unfold xI at h;split at h
  ·rename_i t ht;exact EL ht (fun hh=>tM hm hT x Q st hd.1 (h.1 hh)) (fun hh=>tM hm hT y Q st hd.2 (h.2 hh))
  grind
 | .block id c,Q,st,hd,h=>by grind[Nr,tM hm hT c _ st hd h]
 | .exit id,_,_,_,h=>EM h
 | .ret,_,_,_,h=>Fw h
 | .region _ ops false,Q,st,_,h=>by grind[XC,JT]
 | .region id ops true,Q,st,hd,h=>by
  simp only[XC]at h;simp only[mc]at hd;cases ha:am (1000000+id)with
  |true=>exact h.1 ha
  |false=>exact Ns hm hT ap (h.2 ha)
 | .loop _,Q,st,_,h=>by simpa only[XC]using h
 | .rangeFunc _ _ _ _,Q,st,_,h=>by simpa only[XC]using h
 | .scope _,Q,st,_,h=>by simpa only[XC]using h
 | .label _,Q,st,_,h=>by simpa only[XC]using h
 | .goto _,Q,st,_,h=>by simpa only[XC]using h
 | .refuse _,Q,st,_,h=>by simpa only[XC]using h
theorem V6 {ts:Array TypeId}{x:D}:nr P .len ts [x]=ob ts[0]? fun t=>sO P t x:=by simp only[nr];cases ts[0]?<;>rfl
theorem V7 {ts:Array TypeId}{k k':IntKind}{x y:Int}:nr P .max ts [.fz (.i k x),.fz (.i k' y)]=some (.fz (.i k (max x y)),k=k'):=rfl
def Gr (P:Program)(fn:Func)(Q:D→bR→Nat→Prop)(st:St):Prop:=
 Bi (mY P st fn.results.toList) fun dc=>Req dc.2 (Q (one dc.1) st.H st.n)
theorem Na {fn:Func}{R:D→bR→Nat→Prop}:(match mY P st fn.results.toList with
  |some (ds,c)=>c∧R (one ds) st.H st.n
  |none=>False)=Gr P fn R st:=by
 grind[Gr,Bi,Req]
theorem zzt {t:Nat}:sN P st (.tmp t)=some (st.fr t,True):=rfl
theorem zwt {t ty:Nat}:sN P st (.cell t ty)=pZ P st.H ty (st.fr t):=rfl
theorem zzu:mY P st []=some ([],True):=rfl
theorem Ys {r:ResultVar}{rs:List ResultVar}:mY P st (r::rs)=ob (sN P st r) fun a=>ob (mY P st rs) fun b=>some (a.1::b.1,a.2∧b.2):=by simp only[mY];unfold ob;grind
def lE:Nat→List D→List (Nat×D)
 |_,[]=>[]
 |k,d::ds=>(k,d)::lE (k+1) ds
theorem LG:∀(ds:List D) (k t:Nat),frL (lE k ds) t=if t<k then .junk else ds.getD (t-k) .junk
 |[],k,t=>by simp[lE,frL]
 |d::ds,k,t=>by grind[lE,frL,LG ds (k+1) t]
theorem sx (ds:List D):rZ ds=frL (lE 0 ds):=by grind[LG,rZ]
theorem QR (hm:P.follows .mixedOrders=true)(hT:b9 P G T){f:FuncId}{fn:Func}{c:Code}{args:List D}{H:bR}{n:Nat}{R:D→bR→Nat→Prop}(tag0:Nat)(am:Nat→Bool)(hcall:cW P f)(hf:P.funcs[f]?=some fn)(hb:fn.body=some c){N:Nat}(hN:fn.ntmps=N)(hl:args.length≤N)
  (hd:mc am T c=true)(h:XC P G T N tag0 am c (AR P fn R) ⟨frL (lE 0 args),H,n⟩):cS P G f args H n R:=
 (by grind[Io,sx,tM])
end
class Kn (α:Type) where
 run:α→Prop
class Ko (α β:Type) where
 run:α→Option β
class Kp where
 p:Prop
class Kd where
 run:D→bR→Nat→Prop
class Ke where
 run:Exit→St→Prop
def AE:List FD→D
 |[]=> .junk
 |x::xs=> .rp (x::xs)
def BiK {α:Type}(r:Option α)[k:Kn α]:Prop:=Bi r k.run
def obK {α β:Type}(r:Option α)[k:Ko α β]:Option β:=ob r k.run
def lT (c:Prop)[k:Kp]:Prop:=Req c k.p
def mD (b:Bool)[k:Kp]:Prop:=Chk b k.p
def gG (b:Bool)[x:Kp][y:Kp]:Prop:=mA b x.p y.p
def VvK (N:Nat)(r:Option (D×Prop))(st:St)(dst:Option Tmp)[k:Kn St]:Prop:=Vv N r st dst k.run
def XOK (P:Program)(G:Nat→List FD)(T:Tbl)(N tag0:Nat)(am:Nat→Bool)(st:St)(dst:Option Tmp)(o:Op)[k:Kn St]:Prop:=XO P G T N tag0 am st k.run dst o
def xp (P:Program)(N:Nat)(op:BinOp)(t:TypeId)(x:D)(st:St)(dst:Option Tmp)[k:Kn St]:Prop:=wc P N op t x st dst k.run
def Cw (P:Program)(G:Nat→List FD)(N:Nat)(g:FuncId)(args:List D)(st:St)(dst:Option Tmp)(r:Option (List FD→Option (D×Prop)))[k:Kn St]:Prop:=Fo P G N g args st dst k.run r
def y8 (te:TI)(s:Nat×List D×Prop)(tag:Nat)(st:St)(dst:Option Tmp)(x:D)[k:Kn St]:Prop:=As te s tag st dst k.run x
def y9 (te:TI)(tag:Nat)(om:Bool)(y x:D)(st:St)(dst:Option Tmp)[k:Kn St]:Prop:=Fm te tag om st dst k.run y x
def DR (P:Program)(G:Nat→List FD)(N tag:Nat)(am om:Bool)(args:List Operand)(ts:List TypeId)(st:St)(dst:Option Tmp)[k:Kn St]:Prop:=x5 P G N tag am om args ts st dst k.run
def w9 (P:Program)(G:Nat→List FD)(T:Tbl)(N tag:Nat)(am om:Bool)(args:Array Operand)(ts:Array TypeId)(st:St)(dst:Option Tmp)(c:Callee)[k:Kn St]:Prop:=xJ P G T N tag am om args ts st dst k.run c
def oB (P:Program)(G:Nat→List FD)(T:Tbl)(N tag0:Nat)(am:Nat→Bool)(ops:Array Oper)(os:List Oper)(st:St)[k:Kn St]:Prop:=lH P G T N tag0 am ops os k.run st
def XCK (P:Program)(G:Nat→List FD)(T:Tbl)(N tag0:Nat)(am:Nat→Bool)(c:Code)(st:St)[q:Ke]:Prop:=XC P G T N tag0 am c q.run st
def DS (d:D)[x:Kp][y:Kp]:Prop:=xI x.p y.p d
def wa (e:Exit)(st:St)[r:Kn St][q:Ke]:Prop:=Be r.run q.run e st
def uW (id:Nat)(e:Exit)(st:St)[q:Ke]:Prop:=tJ id q.run e st
def wb (P:Program)(fn:Func)(e:Exit)(st:St)[r:Kd]:Prop:=AR P fn r.run e st
def dJ (P:Program)(G:Nat→List FD)(f:FuncId)(args:List D)(H:bR)(n:Nat)[r:Kd]:Prop:=cS P G f args H n r.run
def WK (P:Program)(G:Nat→List FD)(N:Nat)(c:Code)(st:St)[q:Ke]:Prop:=W P G N c q.run st
@[go_sem] theorem zUz {α:Type}{a:α}{k:α→Prop}:@BiK α (some a) ⟨k⟩=k a:=(rfl)
@[go_sem] theorem zUK {α β:Type}{a:α}{k:α→Option β}:@obK α β (some a) ⟨k⟩=k a:=(rfl)
@[go_sem] theorem zRv {k:Prop}:@lT True ⟨k⟩=k:=OE
@[go_sem] theorem zRu {k:Prop}:@mD true ⟨k⟩=k:=OD
@[go_sem] theorem zUE {x y:Prop}:@gG true ⟨x⟩ ⟨y⟩=x:=Xk
@[go_sem] theorem zUB {x y:Prop}:@gG false ⟨x⟩ ⟨y⟩=y:=WG
@[go_sem] theorem zUC {b:Bool}{x y:Prop}:@gG (!b) ⟨x⟩ ⟨y⟩=@gG b ⟨y⟩ ⟨x⟩:=by grind[gG,mA]
theorem lT.i {c k:Prop}(h:c)(h':c→k):@lT c ⟨k⟩:=⟨h,h' h⟩
theorem gG.i {b:Bool}{x y:Prop}(h:b=true→x)(h':b=false→y):@gG b ⟨x⟩ ⟨y⟩:=⟨h,h'⟩
theorem gG.d {p:Prop}[Decidable p]{x y:Prop}(h:p→x)(h':¬p→y):@gG (decide p) ⟨x⟩ ⟨y⟩:=⟨ap,ap⟩
attribute [go_sem] zBW zE9 zCH zCF zI9 zSm zSn zN7 zHY zBL zEY zr6 zvu znJ zvv zr7 zDd Z0 zvC zvB AN
attribute [go_sem] Option.bind_some lE D.toFD D.toFDs
attribute [go_sem] decide_true decide_false Bool.and_true Bool.true_and Bool.and_false Bool.false_and Bool.or_true Bool.true_or Bool.or_false Bool.false_or Bool.not_true Bool.not_false beq_self_eq_true and_true true_and or_true true_or or_false false_or and_false false_and not_true_eq_false not_false_eq_true if_true if_false ne_eq Bool.false_eq_true eq_self implies_true Bool.not_not beq_true beq_false Bool.not_eq_true Bool.not_eq_false forall_const
attribute [go_sem] Prod.mk.injEq List.getD_cons_zero List.getD_cons_succ List.getElem?_cons_zero List.getElem?_cons_succ List.take_succ_cons List.take_zero List.drop_succ_cons List.drop_zero List.take_nil List.drop_nil List.length_cons List.length_nil List.map_cons List.map_nil List.all_cons List.all_nil List.getElem?_toArray Option.map_some Option.map_none Option.isSome_some Option.getD_some Option.getD_none List.cons_append List.nil_append List.append_nil List.map_map
@[go_sem] theorem zFD {α:Type}{l:List α}:(List.toArray l).toList=l:=rfl
@[go_sem] theorem DO:IntKind.min .i64= -9223372036854775808:=rfl
@[go_sem] theorem DN:IntKind.max .i64=9223372036854775807:=rfl
@[go_sem] theorem zQz:IntKind.min .u8=0:=rfl
@[go_sem] theorem zQy:IntKind.max .u8=255:=rfl
@[go_sem] theorem zMr:IntKind.min .i32= -2147483648:=rfl
@[go_sem] theorem zMq:IntKind.max .i32=2147483647:=rfl
@[go_sem] theorem zOd:IntKind.min .u64=0:=rfl
@[go_sem] theorem zOc:IntKind.max .u64=18446744073709551615:=rfl
@[go_sem] theorem zI1 {α:Type}{l:List α}:(List.toArray l).size=l.length:=rfl
section
variable {P:Program} {G:Nat→List FD} {T:Tbl} {N tag0 tag:Nat} {am:Nat→Bool} {ab ob2:Bool} {st:St} {k:St→Prop} {q:Exit→St→Prop} {kr:D→bR→Nat→Prop} {dst:Option Tmp} {ops:Array Oper} {os:List Oper} {o:Oper} {x y z f a:Operand} {t u:TypeId} {args:Array Operand} {ts:Array TypeId}
@[go_sem] theorem zUF {r:Option (D×Prop)}:@VvK N r st dst ⟨k⟩=@BiK _ r ⟨fun dc=>@mD (fI N dst) ⟨@lT dc.2 ⟨k (st.put dst dc.1)⟩⟩⟩:=(rfl)
@[go_sem] theorem zLn:@XOK P G T N tag0 am st dst (.move x) ⟨k⟩=@mD (fI N dst) ⟨k (st.put dst (st.ev G x))⟩:=(rfl)
@[go_sem] theorem zHb:@XOK P G T N tag0 am st dst (.assign x) ⟨k⟩=@mD (fI N dst) ⟨k (st.put dst (st.ev G x))⟩:=(rfl)
@[go_sem] theorem zLo:@XOK P G T N tag0 am st dst (.pick x y z) ⟨k⟩=@VvK N (rU (st.ev G x) (st.ev G y) (st.ev G z)) st dst ⟨k⟩:=(rfl)
@[go_sem] theorem zIR {ps:Array (Nat×Operand)}:@XOK P G T N tag0 am st dst (.build t ps) ⟨k⟩=@mD (ps.toList.all fun p=>(st.ev G p.2).known) ⟨@VvK N (sH P t (ps.toList.map fun p=>(p.1,st.ev G p.2))) st dst ⟨k⟩⟩:=(rfl)
@[go_sem] theorem zLl:@XOK P G T N tag0 am st dst (.load t a) ⟨k⟩=@VvK N (pZ P st.H t (st.ev G a)) st dst ⟨k⟩:=(rfl)
@[go_sem] theorem zNA:@XOK P G T N tag0 am st dst (.nilCheck x) ⟨k⟩=@VvK N (tW (st.ev G x)) st dst ⟨k⟩:=(rfl)
@[go_sem] theorem zNy {op:BinOp}:@XOK P G T N tag0 am st dst (.binOp op t x y u) ⟨k⟩=@gG (pC y) ⟨@xp P N op t (st.ev G x) st dst ⟨k⟩⟩ ⟨@VvK N (kK P op t (st.ev G x) (st.ev G y)) st dst ⟨k⟩⟩:=by grind[XOK,XO,gG,mA,xp,VvK]
@[go_sem] theorem zPA {op:UnOp}:@XOK P G T N tag0 am st dst (.unOp op t x) ⟨k⟩=@VvK N (sU op (st.ev G x)) st dst ⟨k⟩:=(rfl)
@[go_sem] theorem zLk:@XOK P G T N tag0 am st dst (.convert t u x) ⟨k⟩=@VvK N (pX P t u (st.ev G x)) st dst ⟨k⟩:=(rfl)
@[go_sem] theorem zPz {g:FuncId}{first caps:Array Operand}:@XOK P G T N tag0 am st dst (.makeFunc (.func g) first caps) ⟨k⟩=@mD (first.size==0&&fI N dst) ⟨k (st.put dst (.fn g (caps.toList.map (st.ev G))))⟩:=(rfl)
@[go_sem] theorem zIS {lo hi mx:Option Operand}:@XOK P G T N tag0 am st dst (.slice t x lo hi mx) ⟨k⟩=@VvK N (oh P t (st.ev G x) (lo.map (st.ev G)) (hi.map (st.ev G)) (mx.map (st.ev G))) st dst ⟨k⟩:=(rfl)
@[go_sem] theorem zPv {i:Nat}:@XOK P G T N tag0 am st dst (.fieldAddr t x i) ⟨k⟩=@VvK N (se P t (st.ev G x) i) st dst ⟨k⟩:=(rfl)
@[go_sem] theorem zPx:@XOK P G T N tag0 am st dst (.indexAddr t x y) ⟨k⟩=@VvK N (sf P t (st.ev G x) (st.ev G y)) st dst ⟨k⟩:=(rfl)
@[go_sem] theorem zPy:@XOK P G T N tag0 am st dst (.index t x y) ⟨k⟩=@VvK N (sE P t (st.ev G x) (st.ev G y)) st dst ⟨k⟩:=(rfl)
@[go_sem] theorem zPu {i:Nat}:@XOK P G T N tag0 am st dst (.extract x i) ⟨k⟩=@VvK N (tm (st.ev G x) i) st dst ⟨k⟩:=(rfl)
@[go_sem] theorem zLj {c:Call}:@XOK P G T N tag0 am st dst (.call c) ⟨k⟩=@w9 P G T N (tag0+dst.getD 0) (am (dst.getD 0)) (am (2000000+dst.getD 0)) c.args c.argTypes st dst c.callee ⟨k⟩:=(rfl)
@[go_sem] theorem zIQ:@XOK P G T N tag0 am st dst (.alloc t) ⟨k⟩=@BiK _ (cN P t) ⟨fun ti=>@mD (fI N dst) ⟨k (st.new (tag0+dst.getD 0,st.n) ⟨ti.zero,true,false⟩ dst (.ptr (tag0+dst.getD 0,st.n) 0))⟩⟩:=(rfl)
@[go_sem] theorem zNz:@XOK P G T N tag0 am st dst (.box t x) ⟨k⟩=@mD (fI N dst&&(st.ev G x).known) ⟨k (st.new (tag0+dst.getD 0,st.n) ⟨(st.ev G x).cs,true,false⟩ dst (.ptr (tag0+dst.getD 0,st.n) 0))⟩:=(rfl)
@[go_sem] theorem zLm:@XOK P G T N tag0 am st dst (.makeSlice t x y) ⟨k⟩=@BiK _ (fG P t) ⟨fun te=>@BiK _ (tY (st.ev G x)) ⟨fun n=>@BiK _ (tY (st.ev G y)) ⟨fun m=>@mD (fI N dst) ⟨@lT (m=n∧0≤n∧n.toNat≤dt∧te.bytes*n≤2^48) ⟨k (st.new (tag0+dst.getD 0,st.n) ⟨(List.range (n.toNat*te.size)).map fun j=>te.zero.getD (j % te.size) .junk,false,false⟩ dst (.arr (tag0+dst.getD 0,st.n) te.size 0 n.toNat))⟩⟩⟩⟩⟩:=(rfl)
@[go_sem] theorem zPt {n:Nat}{ps:Array (Nat×Operand)}:@XOK P G T N tag0 am st dst (.buildSlice t n ps) ⟨k⟩=@gG (am (dst.getD 0)) ⟨@BiK _ (fG P t) ⟨fun te=>@mD (fI N dst&&ps.toList.all fun p=>rk te.size (st.ev G p.2)) ⟨@lT (ps.toList.map (·.1)=List.range n∧n≤2^24∧n*te.size≤2^24) ⟨k (st.new (tag0+dst.getD 0,st.n) ⟨ps.toList.flatMap fun p=>(st.ev G p.2).cs,false,false⟩ dst (.arr (tag0+dst.getD 0,st.n) te.size 0 n))⟩⟩⟩⟩ ⟨@VvK N (uD P t n (ps.toList.map (·.1)) (ps.toList.map fun p=>st.ev G p.2)) st dst ⟨k⟩⟩:=by simp only[XOK,XO,gG,mA,VvK,JU,BiK,mD,lT];cases am (dst.getD 0)<;>simp
@[go_sem] theorem zIT:@XOK P G T N tag0 am st dst (.store t a x) ⟨k⟩=@BiK _ (cN P t) ⟨fun ti=>@BiK _ (xU (st.ev G a)) ⟨fun p=>@BiK _ (st.H p.1) ⟨fun o=>@lT (dst=none∧o.virt=false∧(st.ev G x).known=true∧(st.ev G x).cs.all fh=true∧(st.ev G x).cs.length=ti.size∧p.2+ti.size≤o.cells.length) ⟨k {st with H:=cp st.H p.1 (some {o with cells:=mh o.cells p.2 (st.ev G x).cs})}⟩⟩⟩⟩:=(rfl)
@[go_sem] theorem zMI:@w9 P G T N tag ab ob2 args ts st dst (.value f) ⟨k⟩=@BiK _ (we (st.ev G f)) ⟨fun gc=>@Cw P G N gc.1 (args.toList.map (st.ev G)++gc.2) st dst (T gc.1) ⟨k⟩⟩:=(rfl)
@[go_sem] theorem zME:@w9 P G T N tag ab ob2 args ts st dst (.builtin .append) ⟨k⟩=@DR P G N tag ab ob2 args.toList ts.toList st dst ⟨k⟩:=(rfl)
@[go_sem] theorem zMF:@w9 P G T N tag ab ob2 args ts st dst (.builtin .len) ⟨k⟩=@VvK N (nr P .len ts (args.toList.map (st.ev G))) st dst ⟨k⟩:=(rfl)
@[go_sem] theorem zMG:@w9 P G T N tag ab ob2 args ts st dst (.builtin .max) ⟨k⟩=@VvK N (nr P .max ts (args.toList.map (st.ev G))) st dst ⟨k⟩:=(rfl)
@[go_sem] theorem zMz:@DR P G N tag true ob2 [x,y] [t,u] st dst ⟨k⟩=@BiK _ (fG P t) ⟨fun te=>@BiK _ (cN P u) ⟨fun ui=>@mD (fI N dst&&ui.isSlice) ⟨@y9 te tag ob2 (st.ev G y) (st.ev G x) st dst ⟨k⟩⟩⟩⟩:=(rfl)
@[go_sem] theorem zIj {te:TI}{d:D}{id:Id}{es:Nat}{xs:List FD}:@y9 te tag ob2 d (.ow id es xs) st dst ⟨k⟩=@BiK _ (qY st.H te d) ⟨fun yc=>@BiK _ (st.H id) ⟨fun _=>@lT (es=te.size∧dP xs te.size∧yc.2∧(bA yc.1).all fh=true∧fits (xs.length+yc.1.length) te.bytes)
   ⟨k (({st with H:=cp st.H id none}:St).new (tag,st.n) tok dst (.ow (tag,st.n) te.size (xs++yc.1)))⟩⟩⟩:=(rfl)
@[go_sem] theorem zFm {te:TI}{d:D}{xs:List FD}:@y9 te tag ob2 d (.full xs) st dst ⟨k⟩=@gG ob2 ⟨@BiK _ (qY st.H te d) ⟨fun yc=>@lT (dP xs te.size∧yc.2∧fits (xs.length+yc.1.length) te.bytes) ⟨k (st.new (tag,st.n) tok dst (.ow (tag,st.n) te.size (xs++yc.1)))⟩⟩⟩
   ⟨@BiK _ (nN st.H te d) ⟨fun s=>@y8 te s tag st dst (.full xs) ⟨k⟩⟩⟩:=(rfl)
@[go_sem] theorem zG8 {H:bR}{te:TI}{id:Id}{es b len:Nat}:qY H te (.arr id es b len)=@obK _ _ (H id) ⟨fun o=>@obK _ _ (ri ((o.cells.drop b).take (len*te.size))) ⟨fun ys=>some (ys,te.size=1∧es=te.size∧b+len*te.size≤o.cells.length)⟩⟩:=(rfl)
@[go_sem] theorem zIK {H:bR}{te:TI}{ys:List FD}:qY H te (.fz (.sl ys))=some (ys,dP ys te.size):=(rfl)
@[go_sem] theorem zFz {H:bR}{te:TI}{ys:List FD}:qY H te (.full ys)=some (ys,dP ys te.size):=(rfl)
@[go_sem] theorem zGQ {te:TI}{d:D}{id:Id}{es b len:Nat}:@y9 te tag ob2 d (.arr id es b len) st dst ⟨k⟩=@BiK _ (nN st.H te d) ⟨fun s=>@y8 te s tag st dst (.arr id es b len) ⟨k⟩⟩:=(rfl)
@[go_sem] theorem zMy:@DR P G N tag false ob2 [x,y] [t,u] st dst ⟨k⟩=@VvK N (uT P t u (st.ev G x) (st.ev G y)) st dst ⟨k⟩:=(rfl)
@[go_sem] theorem zNx {g:FuncId}{ds:List D}{tf:List FD→Option (D×Prop)}:@Cw P G N g ds st dst (some tf) ⟨k⟩=@BiK _ (D.toFDs ds) ⟨fun xs=>@VvK N (tf xs) st dst ⟨k⟩⟩:=(rfl)
@[go_sem] theorem zNw {g:FuncId}{ds:List D}:@Cw P G N g ds st dst none ⟨k⟩=@mD (fI N dst) ⟨@dJ P G g ds st.H st.n ⟨fun d H n=>k (({st with H:=H,n:=n}:St).put dst d)⟩⟩:=(rfl)
@[go_sem] theorem zOL {te:TI}{s:Nat×List D×Prop}{xs:List FD}:@y8 te s tag st dst (.full xs) ⟨k⟩=@lT (s.2.2∧dP xs te.size∧0<te.size∧(0<s.1∨xs=[])∧fits (xs.length+s.1) te.bytes) ⟨k (st.new (tag,st.n) ⟨bA xs++s.2.1,false,(bA xs++s.2.1).isEmpty⟩ dst (.arr (tag,st.n) te.size 0 (xs.length+s.1)))⟩:=(rfl)
@[go_sem] theorem zOK {te:TI}{s:Nat×List D×Prop}{id:Id}{es b len:Nat}:@y8 te s tag st dst (.arr id es b len) ⟨k⟩=@BiK _ (st.H id) ⟨fun o=>@lT (s.2.2∧es=te.size∧b+len*te.size≤o.cells.length∧s.2.1.all fh=true∧0<te.size∧fits (len+s.1) te.bytes) ⟨k (({st with H:=cp st.H id none}:St).new (tag,st.n) ⟨(o.cells.drop b).take (len*te.size)++s.2.1,false,o.virt&&((o.cells.drop b).take (len*te.size)++s.2.1).isEmpty⟩ dst (.arr (tag,st.n) te.size 0 (len+s.1)))⟩⟩:=(rfl)
@[go_sem] theorem zLg:@oB P G T N tag0 am ops [] st ⟨k⟩=k st:=(rfl)
@[go_sem] theorem zIL:@oB P G T N tag0 am ops (o::os) st ⟨k⟩=@BiK _ (nC ops st.fr o.guard) ⟨fun b=>@gG b ⟨@XOK P G T N tag0 am st o.dst o.op ⟨fun st=>@oB P G T N tag0 am ops os st ⟨k⟩⟩⟩ ⟨@mD (fI N o.dst) ⟨@oB P G T N tag0 am ops os (st.put o.dst (.tup [])) ⟨k⟩⟩⟩⟩:=(rfl)
@[go_sem] theorem zIo:@XCK P G T N tag0 am (.skip) st ⟨q⟩=q .normal st:=(rfl)
@[go_sem] theorem zKH {c d:Code}:@XCK P G T N tag0 am (.seq c d) st ⟨q⟩=@XCK P G T N tag0 am c st ⟨fun e st=>@wa e st ⟨fun st=>@XCK P G T N tag0 am d st ⟨q⟩⟩ ⟨q⟩⟩:=(rfl)
@[go_sem] theorem zIk {c d:Code}:@XCK P G T N tag0 am (.cond x c d) st ⟨q⟩=@DS (st.ev G x) ⟨@XCK P G T N tag0 am c st ⟨q⟩⟩ ⟨@XCK P G T N tag0 am d st ⟨q⟩⟩:=(rfl)
@[go_sem] theorem zGR {i:Nat}{c:Code}:@XCK P G T N tag0 am (.block i c) st ⟨q⟩=@XCK P G T N tag0 am c st ⟨fun e st=>@uW i e st ⟨q⟩⟩:=(rfl)
@[go_sem] theorem zIm {i:Nat}:@XCK P G T N tag0 am (.exit i) st ⟨q⟩=q (.exit i) st:=(rfl)
@[go_sem] theorem zKG:@XCK P G T N tag0 am (.ret) st ⟨q⟩=q .ret st:=(rfl)
@[go_sem] theorem zFn {i:Nat}:@XCK P G T N tag0 am (.region i ops false) st ⟨q⟩=@oB P G T N tag0 am ops ops.toList st ⟨q .normal⟩:=(rfl)
@[go_sem] theorem zIl {i:Nat}:@XCK P G T N tag0 am (.region i ops true) st ⟨q⟩=@gG (am (1000000+i)) ⟨@WK P G N (.region i ops true) st ⟨q⟩⟩ ⟨@oB P G T N tag0 am ops ops.toList st ⟨q .normal⟩⟩:=(rfl)
@[go_sem] theorem zIn {c:Code}:@XCK P G T N tag0 am (.loop c) st ⟨q⟩=@WK P G N (.loop c) st ⟨q⟩:=(rfl)
@[go_sem] theorem zML {b:Bool}{p1 p2:Prop}:@DS (.fz (.b b)) ⟨p1⟩ ⟨p2⟩=@gG b ⟨p1⟩ ⟨p2⟩:=(rfl)
@[go_sem] theorem zPh:@wa .normal st ⟨k⟩ ⟨q⟩=k st:=(rfl)
@[go_sem] theorem zPg {i:Nat}:@wa (.exit i) st ⟨k⟩ ⟨q⟩=q (.exit i) st:=(rfl)
@[go_sem] theorem zPi:@wa .ret st ⟨k⟩ ⟨q⟩=q .ret st:=(rfl)
@[go_sem] theorem zOM {i j:Nat}:@uW j (.exit i) st ⟨q⟩=@gG (i==j) ⟨q .normal st⟩ ⟨q (.exit i) st⟩:=by grind[uW,tJ,gG,mA]
@[go_sem] theorem zON {j:Nat}:@uW j .normal st ⟨q⟩=q .normal st:=(rfl)
@[go_sem] theorem zOO {j:Nat}:@uW j .ret st ⟨q⟩=q .ret st:=(rfl)
@[go_sem] theorem zPe {fn:Func}:@wb P fn .normal st ⟨kr⟩=@BiK _ (mY P st fn.results.toList) ⟨fun dc=>@lT dc.2 ⟨kr (one dc.1) st.H st.n⟩⟩:=Na
@[go_sem] theorem zPf {fn:Func}:@wb P fn .ret st ⟨kr⟩=@BiK _ (mY P st fn.results.toList) ⟨fun dc=>@lT dc.2 ⟨kr (one dc.1) st.H st.n⟩⟩:=Na
attribute [go_sem] zzt zwt zzu
@[go_sem] theorem zPd {r:ResultVar}{rs:List ResultVar}:mY P st (r::rs)=@obK _ _ (sN P st r) ⟨fun a=>@obK _ _ (mY P st rs) ⟨fun b=>some (a.1::b.1,a.2∧b.2)⟩⟩:=Ys
@[go_sem] theorem zPb {d:D}:one [d]=d:=rfl
@[go_sem] theorem zPa:one []= .tup []:=rfl
@[go_sem] theorem zPc {d e:D}{ds:List D}:one (d::e::ds)= .tup (d::e::ds):=rfl
@[go_sem] theorem zUI {fr:Nat→D}:nC ops fr none=some true:=rfl
@[go_sem] theorem zUJ {fr:Nat→D}{jw:Nat×Bool}:nC ops fr (some jw)=@obK _ _ ((ops[jw.1]?).bind (·.dst)) ⟨fun t=>gv2 jw.2 (fr t)⟩:=rfl
@[go_sem] theorem zUG {b c:Bool}:gv2 c (.fz (.b b))=some (b==c):=rfl
@[go_sem] theorem zUH {c:Bool}:gv2 c (.tup [])=some false:=rfl
@[go_sem] theorem zFq {g:Nat}:St.ev G st (.global g)=AE (G g):=rfl
end
section
variable {P:Program} {xs ys:List FD} {ds es':List D} {id:Id} {k es s len f i off size n':Nat} {x:FD} {b c:Bool} {n m:Int} {kd kd':IntKind} {l l':List UInt8} {H:bR} {ti:TI} {agg:Bool} {p q:Prop} {caps:List D} {d e:D} {t u:TypeId} {op:BinOp} {lo hi:Option D}
@[go_sem] theorem zK1:pC (.tmp k)=false:=rfl
@[go_sem] theorem zK0:pC (.const (.int kd n))=false:=rfl
@[go_sem] theorem zO5:pC (.const (.bool b))=false:=rfl
@[go_sem] theorem zO9 {a:ByteArray}:pC (.const (.string a))=false:=rfl
@[go_sem] theorem zO7:pC (.global k)=false:=rfl
@[go_sem] theorem zO6:pC (.func k)=false:=rfl
@[go_sem] theorem zO8:pC (.const (.slice none 0 0))=true:=rfl
@[go_sem] theorem zNe:pC (.const .nilFunc)=false:=rfl
@[go_sem] theorem zNh:xU (.ptr id k)=some (id,k):=rfl
@[go_sem] theorem zO2:we (.fn f caps)=some (f,caps):=rfl
@[go_sem] theorem zM8:tY (.fz (.i kd n))=some n:=rfl
@[go_sem] theorem zKQ:pZ P H t d=@obK _ _ (cN P t) ⟨fun ti=>uq ti H d⟩:=B7
@[go_sem] theorem zM9:uq ti H (.rp xs)=some (if ti.agg then .fz (.agg (xs.take ti.size))else .fz (xs.getD 0 .nilf),ti.size≤xs.length∧(ti.agg=false→ti.size=1)):=rfl
@[go_sem] theorem zKX:uq ti H (.ptr id k)=@obK _ _ (H id) ⟨fun o=>some (if ti.agg then .agg ((o.cells.drop k).take ti.size)else o.cells.getD k .junk,k+ti.size≤o.cells.length∧o.virt=false∧(ti.agg=false→ti.size=1))⟩:=rfl
@[go_sem] theorem zOV:se P t d i=@obK _ _ (cN P t) ⟨fun ti=>@obK _ _ (fieldsOf ti.und i) ⟨fun f=>@obK _ _ (cN P f.2) ⟨fun fi=>faD f.1 fi.size d⟩⟩⟩:=VT
@[go_sem] theorem zKS {fs:List (Nat×TypeId)}:fieldsOf (.struct fs) i=fs[i]?:=rfl
@[go_sem] theorem zKR:faD off size (.ptr id k)=some (.ptr id (k+off),size≠0):=rfl
@[go_sem] theorem zMS:faD off size (.rp xs)=some (.rp (xs.drop off),size≠0):=rfl
@[go_sem] theorem zMR:fD off size agg (.agg ds)=some (if agg then .agg ((ds.drop off).take size)else ds.getD off .junk,off+size≤ds.length∧(agg=false→size=1)):=rfl
@[go_sem] theorem zO0:fD off size agg (.fz (.agg xs))=some (if agg then .fz (.agg ((xs.drop off).take size))else .fz (xs.getD off .nilf),off+size≤xs.length∧(agg=false→size=1)):=rfl
@[go_sem] theorem zKP:fG P t=@obK _ _ (cN P t) ⟨fun ti=>@obK _ _ (D4 ti.und) ⟨fun e=>cN P e⟩⟩:=Zm
@[go_sem] theorem zKO:D4 (.slice t)=some t:=rfl
@[go_sem] theorem zOW:sf P t d e=@obK _ _ (fG P t) ⟨fun te=>iaD te.size d e⟩:=V0
@[go_sem] theorem zM7:iaD size (.fz (.sl xs)) (.fz (.i kd n))=some (.rp (xs.getD n.toNat .nilf).cells,0≤n∧n<xs.length∧(xs.getD n.toNat .nilf).cells.length=size):=rfl
@[go_sem] theorem zIA:iaD size (.full xs) (.fz (.i kd n))=some (.rp (xs.getD n.toNat .nilf).cells,0≤n∧n<xs.length∧(xs.getD n.toNat .nilf).cells.length=size):=rfl
@[go_sem] theorem zM6:iaD size (.ow id es xs) (.fz (.i kd n))=some (.rp (xs.getD n.toNat .nilf).cells,0≤n∧n<xs.length∧(xs.getD n.toNat .nilf).cells.length=size):=rfl
@[go_sem] theorem zKW:iaD size (.arr id es s len) (.fz (.i kd n))=some (.ptr id (s+n.toNat*es),0≤n∧n<len∧es=size):=rfl
@[go_sem] theorem zOX:sE P t (.fz (.s l)) (.fz (.i kd n))=@obK _ _ (cN P t) ⟨fun ti=>if ti.isStr then some (.fz (.i .u8 ((l.getD n.toNat 0).toNat:Int)),0≤n∧n<l.length)else none⟩:=Xz
@[go_sem] theorem zMQ:sO P t d=@obK _ _ (cN P t) ⟨fun ti=>sW ti.isStr ti.isSlice d⟩:=Pf
@[go_sem] theorem zNa:sW true c (.fz (.s l))=some (.fz (.i .i64 l.length),True):=rfl
@[go_sem] theorem zKZ:sW b true (.fz (.sl xs))=some (.fz (.i .i64 xs.length),True):=rfl
@[go_sem] theorem zGZ:sW b true (.full xs)=some (.fz (.i .i64 xs.length),True):=rfl
@[go_sem] theorem zKY:sW b true (.ow id es xs)=some (.fz (.i .i64 xs.length),True):=rfl
@[go_sem] theorem zIB:sW b true (.arr id es s len)=some (.fz (.i .i64 len),True):=rfl
@[go_sem] theorem zMA {ts:Array TypeId}:nr P .len ts [d]=@obK _ _ ts[0]? ⟨fun t=>sO P t d⟩:=V6
@[go_sem] theorem zMB {ts:Array TypeId}:nr P .max ts [.fz (.i kd n),.fz (.i kd' m)]=some (.fz (.i kd (max n m)),kd=kd'):=V7
@[go_sem] theorem zLf:nN H ti (.fz (.sl xs))=some (xs.length,bA xs,dP xs ti.size):=rfl
@[go_sem] theorem zG7:nN H ti (.full xs)=some (xs.length,bA xs,dP xs ti.size):=rfl
@[go_sem] theorem zLe:nN H ti (.ow id es xs)=some (xs.length,bA xs,dP xs ti.size):=rfl
@[go_sem] theorem zNt:oh P t (.fz (.sl xs)) lo hi none=@obK _ _ (fG P t) ⟨fun te=>@obK _ _ (nu lo) ⟨fun a=>@obK _ _ (mP xs.length hi) ⟨fun b=>some (.fz (.sl (ku xs a b)),0≤a∧a≤b∧b≤xs.length∧(a=0∨a=b∨(xs.getD a.toNat .nilf).cells.length=te.size))⟩⟩⟩:=XD
@[go_sem] theorem zLc:oh P t (.fz (.sl xs)) lo (some d) (some (.fz (.i kd m)))=@obK _ _ (fG P t) ⟨fun te=>@obK _ _ (nu lo) ⟨fun a=>@obK _ _ (mP xs.length (some d)) ⟨fun b=>some (.full (ku xs a b),0≤a∧a≤b∧b≤xs.length∧m=b∧(a=0∨a=b∨(xs.getD a.toNat .nilf).cells.length=te.size))⟩⟩⟩:=Xa
@[go_sem] theorem zLa:oh P t (.arr id es s len) lo hi none=@obK _ _ (fG P t) ⟨fun te=>@obK _ _ (nu lo) ⟨fun a=>@obK _ _ (mP len hi) ⟨fun b=>some (.arr id es (s+a.toNat*es) (b-a).toNat,0≤a∧a≤b∧b≤len∧es=te.size)⟩⟩⟩:=W9
@[go_sem] theorem zRA:nu none=some 0:=rfl
@[go_sem] theorem zRB:nu (some (.fz (.i kd n)))=some n:=rfl
@[go_sem] theorem zRy:mP k none=some (k:Int):=rfl
@[go_sem] theorem zRz:mP k (some (.fz (.i kd n)))=some n:=rfl
attribute [go_sem] Z9 Z'
@[go_sem] theorem zKD:kK P op t (.fz (.b b)) (.fz (.b c))=@obK _ _ (cN P t) ⟨fun ti=>if ti.isBool then o7 op (b==c) True else none⟩:=PP
@[go_sem] theorem zKF:kK P op t (.fz (.agg xs)) (.fz (.agg ys))=@obK _ _ (cN P t) ⟨fun ti=>@obK _ _ (lk ti.fund xs ys) ⟨fun rc=>if ti.eqok then o7 op rc.1 rc.2 else none⟩⟩:=PR
@[go_sem] theorem zKC:kK P op t (.agg ds) (.fz (.agg ys))=@obK _ _ (D.toFDs ds) ⟨fun xs=>@obK _ _ (cN P t) ⟨fun ti=>@obK _ _ (lk ti.fund xs ys) ⟨fun rc=>if ti.eqok then o7 op rc.1 rc.2 else none⟩⟩⟩:=PO
@[go_sem] theorem zKE:kK P op t (.fz (.agg xs)) (.agg ds)=@obK _ _ (D.toFDs ds) ⟨fun ys=>@obK _ _ (cN P t) ⟨fun ti=>@obK _ _ (lk ti.fund xs ys) ⟨fun rc=>if ti.eqok then o7 op rc.1 rc.2 else none⟩⟩⟩:=PQ
@[go_sem] theorem zKB:kK P op t (.agg ds) (.agg es')=@obK _ _ (D.toFDs ds) ⟨fun xs=>@obK _ _ (D.toFDs es') ⟨fun ys=>@obK _ _ (cN P t) ⟨fun ti=>@obK _ _ (lk ti.fund xs ys) ⟨fun rc=>if ti.eqok then o7 op rc.1 rc.2 else none⟩⟩⟩⟩:=PN
@[go_sem] theorem zMJ:o7 .eql b p=some (.fz (.b b),p):=rfl
@[go_sem] theorem zMK:o7 .neq b p=some (.fz (.b (!b)),p):=rfl
@[go_sem] theorem zMT:ly .add kd kd' n m=some (.fz (.i kd (n+m)),kd=kd'∧inK kd (n+m)):=rfl
@[go_sem] theorem zM5:ly .sub kd kd' n m=some (.fz (.i kd (n-m)),kd=kd'∧inK kd (n-m)):=rfl
@[go_sem] theorem zM0:ly .mul kd kd' n m=some (.fz (.i kd (n*m)),kd=kd'∧inK kd (n*m)):=rfl
@[go_sem] theorem zM2:ly .quo kd kd' n m=some (.fz (.i kd (n / m)),kd=kd'∧0≤n∧0<m):=rfl
@[go_sem] theorem zM3:ly .rem kd kd' n m=some (.fz (.i kd (n % m)),kd=kd'∧0≤n∧0<m):=rfl
@[go_sem] theorem zMV:ly .eql kd kd' n m=some (.fz (.b (decide (n=m))),kd=kd'):=by
 have:(n==m)=decide (n=m):=by by_cases h:n=m<;>simp[h]
 simp only[ly,this]
@[go_sem] theorem zM1:ly .neq kd kd' n m=some (.fz (.b (!decide (n=m))),kd=kd'):=by
 have:(n !=m)= !decide (n=m):=by by_cases h:n=m<;>simp[h]
 simp only[ly,this]
@[go_sem] theorem zMZ:ly .lss kd kd' n m=some (.fz (.b (decide (n<m))),kd=kd'):=rfl
@[go_sem] theorem zMY:ly .leq kd kd' n m=some (.fz (.b (decide (n≤m))),kd=kd'):=rfl
@[go_sem] theorem zMX:ly .gtr kd kd' n m=some (.fz (.b (decide (m<n))),kd=kd'):=rfl
@[go_sem] theorem zMW:ly .geq kd kd' n m=some (.fz (.b (decide (m≤n))),kd=kd'):=rfl
@[go_sem] theorem zM4:ly .shr kd kd' n m=some (.fz (.i kd (n / 2^m.toNat)),0≤n∧0≤m∧m.toNat≤kd.bits):=rfl
@[go_sem] theorem zNj:oX .add l l'=some (.fz (.s (l++l')),l.length+l'.length≤dt):=rfl
@[go_sem] theorem zNo:oX .lss l l'=some (.fz (.b (Op.bytesLess l l')),True):=rfl
@[go_sem] theorem zNn:oX .leq l l'=some (.fz (.b (Op.bytesLess l l'||l==l')),True):=rfl
@[go_sem] theorem zNm:oX .gtr l l'=some (.fz (.b (!(Op.bytesLess l l'||l==l'))),True):=rfl
@[go_sem] theorem zNl:oX .geq l l'=some (.fz (.b (!Op.bytesLess l l')),True):=rfl
@[go_sem] theorem zNk:oX .eql l l'=some (.fz (.b (decide (l=l'))),True):=by grind[oX]
@[go_sem] theorem zNp:oX .neq l l'=some (.fz (.b (!decide (l=l'))),True):=by grind[oX]
@[go_sem] theorem zOS:rR .bool (.b b) (.b c)=some (b==c,True):=rfl
@[go_sem] theorem zOT:rR (.int kd) (.i kd n) (.i kd m)=some (decide (n=m),True):=by grind[rR]
@[go_sem] theorem zOU:rR .str (.s l) (.s l')=some (decide (l=l'),True):=by grind[rR]
@[go_sem] theorem zIy:lk [] [] []=some (true,True):=rfl
@[go_sem] theorem zGU {v:Und}{vs:List Und}{y:FD}:lk (v::vs) (x::xs) (y::ys)=@obK _ _ (rR v x y) ⟨fun a=>@obK _ _ (lk vs xs ys) ⟨fun b=>some (a.1&&b.1,a.2∧b.2)⟩⟩:=by simp only[lk];unfold obK ob;grind
@[go_sem] theorem zRD:sU .not (.fz (.b b))=some (.fz (.b (!b)),True):=rfl
@[go_sem] theorem zRC:sU .neg (.fz (.i kd n))=some (.fz (.i kd (-n)),inK kd (-n)):=rfl
@[go_sem] theorem zK9:rU (.fz (.b true)) d e=some (d,True):=rfl
@[go_sem] theorem zK8:rU (.fz (.b false)) d e=some (e,True):=rfl
@[go_sem] theorem zNf:rU (.fz (.b b)) (.fz (.b true)) (.fz (.b c))=some (.fz (.b (b||c)),True):=by cases b<;>rfl
@[go_sem] theorem zNg:rU (.fz (.b b)) (.fz (.b c)) (.fz (.b false))=some (.fz (.b (b&&c)),True):=by cases b<;>rfl
@[go_sem] theorem zRx:tm (.tup ds) i=@obK _ _ ds[i]? ⟨fun d=>some (d,True)⟩:=by grind[tm,obK,ob]
@[go_sem] theorem zK4:tW (.rp xs)=some (.rp xs,True):=rfl
@[go_sem] theorem zIC:tW (.ptr id k)=some (.ptr id k,True):=rfl
@[go_sem] theorem zOQ:pX P t u (.fz (.i kd n))=@obK _ _ (cN P t) ⟨fun _=>@obK _ _ (cN P u) ⟨fun ti=>@obK _ _ ti.intK ⟨fun k=>some (.fz (.i k n),inK k n)⟩⟩⟩:=Pc
@[go_sem] theorem zOP:pX P t u (.full [.i .u8 n])=@obK _ _ (cN P t) ⟨fun _=>@obK _ _ (cN P u) ⟨fun ti=>@obK _ _ (fG P t) ⟨fun te=>@obK _ _ te.intK ⟨fun k=>if k= .u8 then(if ti.isStr then some (.fz (.s [UInt8.ofNat n.toNat]),True)else none)else none⟩⟩⟩⟩:=Pb
@[go_sem] theorem zDU {us:List Und}:TI.isStr ⟨k,n',ds,.bool,b,c,us⟩=false:=rfl
@[go_sem] theorem ZV {us:List Und}:TI.isSlice ⟨k,n',ds,.bool,b,c,us⟩=false:=rfl
@[go_sem] theorem Z8 {us:List Und}:TI.isBool ⟨k,n',ds,.bool,b,c,us⟩=true:=rfl
@[go_sem] theorem zFt {us:List Und}:TI.isStr ⟨k,n',ds,.str,b,c,us⟩=true:=rfl
@[go_sem] theorem zCd {us:List Und}:TI.isSlice ⟨k,n',ds,.str,b,c,us⟩=false:=rfl
@[go_sem] theorem zDT {us:List Und}:TI.isBool ⟨k,n',ds,.str,b,c,us⟩=false:=rfl
@[go_sem] theorem zDV {us:List Und}:TI.isStr ⟨k,n',ds,.func,b,c,us⟩=false:=rfl
@[go_sem] theorem ZW {us:List Und}:TI.isSlice ⟨k,n',ds,.func,b,c,us⟩=false:=rfl
@[go_sem] theorem zCa {us:List Und}:TI.isBool ⟨k,n',ds,.func,b,c,us⟩=false:=rfl
@[go_sem] theorem zFs {us:List Und}:TI.isStr ⟨k,n',ds,.ptr,b,c,us⟩=false:=rfl
@[go_sem] theorem zCc {us:List Und}:TI.isSlice ⟨k,n',ds,.ptr,b,c,us⟩=false:=rfl
@[go_sem] theorem zDS {us:List Und}:TI.isBool ⟨k,n',ds,.ptr,b,c,us⟩=false:=rfl
@[go_sem] theorem zCe {us:List Und}:TI.isStr ⟨k,n',ds,.other,b,c,us⟩=false:=rfl
@[go_sem] theorem zyF {us:List Und}:TI.isSlice ⟨k,n',ds,.other,b,c,us⟩=false:=rfl
@[go_sem] theorem ZU {us:List Und}:TI.isBool ⟨k,n',ds,.other,b,c,us⟩=false:=rfl
@[go_sem] theorem zCf {us:List Und}:TI.isStr ⟨k,n',ds,.slice t,b,c,us⟩=false:=rfl
@[go_sem] theorem zyG {us:List Und}:TI.isSlice ⟨k,n',ds,.slice t,b,c,us⟩=true:=rfl
@[go_sem] theorem zFr {us:List Und}:TI.isStr ⟨k,n',ds,.int kd,b,c,us⟩=false:=rfl
@[go_sem] theorem zCb {us:List Und}:TI.isSlice ⟨k,n',ds,.int kd,b,c,us⟩=false:=rfl
@[go_sem] theorem ZX {us:List Und}{fs:List (Nat×TypeId)}:TI.isStr ⟨k,n',ds,.struct fs,b,c,us⟩=false:=rfl
@[go_sem] theorem zwZ {us:List Und}{fs:List (Nat×TypeId)}:TI.isSlice ⟨k,n',ds,.struct fs,b,c,us⟩=false:=rfl
@[go_sem] theorem zO4 {us:List Und}:TI.intK ⟨k,n',ds,.int kd,b,c,us⟩=some kd:=rfl
attribute [go_sem] zvN
@[go_sem] theorem zO1 {fs:List (Nat×TypeId)}{rest:List (Nat×D)}:oQ P fs ds ((i,d)::rest)=@obK _ _ fs[i]? ⟨fun f=>@obK _ _ (cN P f.2) ⟨fun fi=>@obK _ _ (oQ P fs (mh ds f.1 d.cs) rest) ⟨fun r=>some (r.1,(d.cs.length=fi.size∧f.1+fi.size≤ds.length)∧r.2)⟩⟩⟩:=W8
@[go_sem] theorem zMD {ps:List (Nat×D)}:sH P t ps=@obK _ _ (cN P t) ⟨fun ti=>@obK _ _ (zt ti.und) ⟨fun fs=>if fs.all (fun p=>(cN P p.2).isSome)then(@obK _ _ (oQ P fs ti.zero ps) ⟨fun r=>some (.agg r.1,r.2)⟩)else none⟩⟩:=Xw
@[go_sem] theorem zG9 {fs:List (Nat×TypeId)}:zt (.struct fs)=some fs:=rfl
@[go_sem] theorem zPs:rk n' d=(d.known&&d.cs.length==n'):=rfl
attribute [go_sem] List.flatMap_cons List.flatMap_nil
@[go_sem] theorem zGW:D.known (.fz x)=true:=rfl
@[go_sem] theorem zDW:D.known (.full xs)=true:=rfl
@[go_sem] theorem zIx:D.cs (.full xs)=[.full xs]:=rfl
@[go_sem] theorem zGY:D.known (.rp xs)=true:=rfl
@[go_sem] theorem zMP:D.cs (.rp xs)=[.rp xs]:=rfl
@[go_sem] theorem zFw:D.known (.ptr id k)=true:=rfl
@[go_sem] theorem zKM:D.cs (.ptr id k)=[.ptr id k]:=rfl
@[go_sem] theorem zFv:D.known (.arr id es s len)=true:=rfl
@[go_sem] theorem zKL:D.cs (.arr id es s len)=[.arr id es s len]:=rfl
@[go_sem] theorem zGX:D.known (.ow id es xs)=true:=rfl
@[go_sem] theorem zMO:D.cs (.ow id es xs)=[.ow id es xs]:=rfl
@[go_sem] theorem zK6:fh (.ow id es xs)=true:=rfl
@[go_sem] theorem zNr:qW (.ow id es xs)=some xs:=rfl
@[go_sem] theorem zGV:D.known (.fn f caps)=true:=rfl
@[go_sem] theorem zMM:D.cs (.fn f caps)=[.fn f caps]:=rfl
@[go_sem] theorem zFu:D.known (.agg ds)=true:=rfl
@[go_sem] theorem zFx:D.known (.tup ds)=true:=rfl
@[go_sem] theorem zKN:D.cs (.tup ds)=[.tup ds]:=rfl
@[go_sem] theorem zDX:D.known .junk=false:=rfl
@[go_sem] theorem zKK:D.cs (.agg ds)=ds:=rfl
@[go_sem] theorem zMN:D.cs (.fz x)=x.cells.map .fz:=rfl
@[go_sem] theorem zIu:FD.cells (.b b)=[.b b]:=rfl
@[go_sem] theorem zG1:fh (.fz (.b b))=true:=rfl
@[go_sem] theorem zIv:FD.cells (.i kd n)=[.i kd n]:=rfl
@[go_sem] theorem zG2:fh (.fz (.i kd n))=true:=rfl
@[go_sem] theorem zIw:FD.cells (.s l)=[.s l]:=rfl
@[go_sem] theorem zG3:fh (.fz (.s l))=true:=rfl
@[go_sem] theorem zGT:FD.cells (.sl xs)=[.sl xs]:=rfl
@[go_sem] theorem zFy:fh (.fz (.sl xs))=true:=rfl
@[go_sem] theorem zFp:FD.cells (.agg xs)=xs:=rfl
@[go_sem] theorem zDY:fh (.fz (.agg xs))=false:=rfl
@[go_sem] theorem zDR:FD.cells .nilf=[.nilf]:=rfl
@[go_sem] theorem zG4:fh (.fz .nilf)=true:=rfl
@[go_sem] theorem zG0:fh (.full xs)=true:=rfl
@[go_sem] theorem zK7:fh (.rp xs)=true:=rfl
@[go_sem] theorem zIE:fh (.ptr id k)=true:=rfl
@[go_sem] theorem zID:fh (.arr id es s len)=true:=rfl
@[go_sem] theorem zK5:fh (.fn f caps)=true:=rfl
@[go_sem] theorem zKT:zV (.full xs)=some xs:=rfl
@[go_sem] theorem zPj:qW (.fz (.sl xs))=some xs:=rfl
@[go_sem] theorem zNq:qW (.full xs)=some xs:=rfl
@[go_sem] theorem zOZ {is:List Nat}:uD P t k is ds=@obK _ _ (fG P t) ⟨fun te=>@obK _ _ (D.toFDs ds) ⟨fun xs=>some (.full xs,is=List.range k∧dP xs te.size∧k*te.size≤2^24∧k≤dt)⟩⟩:=by unfold uD obK ob;grind
@[go_sem] theorem zOY:uT P t u d e=@obK _ _ (fG P t) ⟨fun te=>@obK _ _ (cN P u) ⟨fun ui=>@obK _ _ (zV d) ⟨fun xs=>@obK _ _ (qW e) ⟨fun ys=>if ui.isSlice then some (.fz (.sl (xs++ys)),dP xs te.size∧dP ys te.size∧fits (xs.length+ys.length) te.bytes)else none⟩⟩⟩⟩:=by unfold uT obK ob;grind
end
theorem ym {P:Program}{G:Nat→List FD}{T:Tbl}(hm:P.follows .mixedOrders=true)(hT:b9 P G T){f:FuncId}{fn:Func}{c:Code}{args:List D}{H:bR}{n:Nat}{R:D→bR→Nat→Prop}(tag0:Nat)(am:Nat→Bool)(hcall:cW P f)(hf:P.funcs[f]?=some fn)(hb:fn.body=some c){N:Nat}(hN:fn.ntmps=N)(hl:args.length≤N)
  (hd:mc am T c=true)(h:@XCK P G T N tag0 am c ⟨frL (lE 0 args),H,n⟩ ⟨fun e st=>@wb P fn e st ⟨R⟩⟩):cS P G f args H n R:=
 QR hm hT tag0 am hcall hf hb hN hl hd h
def lst:List Nat→Nat→Bool
 |[],_=>false
 |a::l,t=>t==a||lst l t
attribute [go_sem] lst
def hpL:List (Id×Option O)→bR
 |[],_=>none
 |(i,o)::l,j=>if j=i then o else hpL l j
@[go_sem] theorem zKV {l:List (Id×Option O)}{i:Id}{o:Option O}:cp (hpL l) i o=hpL ((i,o)::l):=by funext j;simp only[cp,hpL]
@[go_sem] theorem zIz {l:List (Id×Option O)}{i j:Id}{o:Option O}:hpL ((i,o)::l) j=if j=i then o else hpL l j:=rfl
@[go_sem] theorem zKU {j:Id}:hpL [] j=none:=rfl
theorem ky:H0=hpL []:=by rfl
def pM (fr:Nat→D):List (Nat×D)→Prop
 |[]=>True
 |(k,d)::l=>fr k=d∧pM fr l
def iO (H:bR):List (Id×Option O)→Prop
 |[]=>True
 |(i,o)::l=>H i=o∧iO H l
theorem pM.get {fr:Nat→D}:∀{l:List (Nat×D)},pM fr l→∀t,frL l t=fr t∨frL l t= .junk
 |[],_,_=> .inr rfl
 |(k,d)::l,h,t=>by
  simp only[frL];split
  ·rename_i e;subst e;exact .inl h.1.symm
  ·exact pM.get h.2 t
theorem iO.get {H:bR}:∀{l:List (Id×Option O)},iO H l→∀id o,hpL l id=some o→H id=some o
 |[],_,_,_,h=>by cases h
 |(i,o')::l,h,id,o,e=>by
  simp only[hpL]at e;split at e
  ·rename_i e';subst e';rw[h.1];exact e
  ·exact iO.get h.2 id o e
theorem bF {G:Nat→List FD}{N:Nat}{st:St}{l:List (Nat×D)}{hl:List (Id×Option O)}{n:Nat}(hf:pM st.fr l)(hh:iO st.H hl)(hn:st.n≤n):gH G N st ⟨frL l,hpL hl,n⟩:=by
 intro a w L F h;have hu:∀id,Ub st.n id→Ub n id:=fun id hid=>cO hid hn;have e:Ext w L F (Ub st.n) w L F (Ub n):=⟨hu,fun _ _=>rfl,fun _ _ h=>h,fun _ _ _=>rfl,aI _,ap⟩
 refine⟨L,F,⟨⟨h.ok.fb,fun id o ho=>?_,fun id id' o o' h1 h2=>h.ok.inj id id' o o' (hh.get _ _ h1) (hh.get _ _ h2),h.ok.glob⟩,h.size,fun t=>?_,h.nd⟩,hu,fun _ _=>rfl,fun _ _ h=>h,aI _,fun _ _ _=>rfl,fun _ _ _ _=>rfl,
  ap,ap,fun b k hb=> .inr ?_,rfl,rfl,rfl,aI _⟩
 ·obtain⟨h1,h2⟩:=h.ok.live id o (hh.get _ _ ho);exact⟨hu _ h1,h2.ext e h1 (by grind[iL])⟩
 ·rcases hf.get t with h1|h1
  ·simp only;rw[h1];exact(h.fr t).ext e
  simp_all[bw]
 ·obtain⟨id,o,h1,h2,h3⟩:=hb;exact⟨id,o,hh.get _ _ h1,h2,h3⟩
def lsw (ows own:List Nat)(t:Nat):Bool:=lst ows t||lst own t||lst (ows.map (2000000+·)) t
attribute [go_sem] lsw tok
class Ki (ι:Type) where
 st:ι→St
 mu:ι→Nat
def xy (G:Nat→List FD)(N:Nat){ι:Type}[I:Ki ι](i:ι)(e:Exit)(st:St)[q:Ke]:Prop:=Fy G N I.st I.mu i q.run e st
def Tm (G:Nat→List FD)(N:Nat){ι:Type}[I:Ki ι](i:ι)(st:St):Prop:=∃i',I.mu i'<I.mu i∧gH G N st (I.st i')
section
variable {P:Program} {G:Nat→List FD} {T:Tbl} {N tag0:Nat} {am:Nat→Bool} {st:St} {ι:Type} {I:Ki ι} {i:ι} {q:Exit→St→Prop} {j:Nat}
@[go_sem] theorem zNc:@xy G N ι I i .normal st ⟨q⟩=@Tm G N ι I i st:=(rfl)
@[go_sem] theorem zNb:@xy G N ι I i (.exit j) st ⟨q⟩=q (.exit j) st:=(rfl)
@[go_sem] theorem zNd:@xy G N ι I i .ret st ⟨q⟩=q .ret st:=(rfl)
theorem cI (hm:P.follows .mixedOrders=true)(hT:b9 P G T)(tag0:Nat)(am:Nat→Bool){c:Code}(I:Ki ι)(i:ι)(hd:mc am T c=true)(h0:gH G N st (I.st i))
  (round:∀i,@XCK P G T N tag0 am c (I.st i) ⟨fun e st=>@xy G N ι I i e st ⟨q⟩⟩):@WK P G N (.loop c) st ⟨q⟩:=
 EN I.st I.mu i h0 fun i=>tM hm hT c _ _ hd (round i)
end
theorem dJ.i {P:Program}{G:Nat→List FD}{f:FuncId}{args:List D}{H:bR}{n:Nat}{R:D→bR→Nat→Prop}(h:cS P G f args H n R):@dJ P G f args H n ⟨R⟩:=h
theorem WK.i {P:Program}{G:Nat→List FD}{N:Nat}{c:Code}{st:St}{q:Exit→St→Prop}(h:W P G N c q st):@WK P G N c st ⟨q⟩:=h
attribute [irreducible] BiK obK lT mD gG VvK XOK xp Cw y8 y9 DR w9 oB XCK DS wa uW wb dJ WK xy
inductive FD.Wf:FD→Prop
 |b (x):Wf (.b x)
 |i (k n):k.min≤n→n≤k.max→Wf (.i k n)
 |s (x):x.length≤dt→Wf (.s x)
 |sl (xs):xs.length≤dt→(∀x∈xs,Wf x)→Wf (.sl xs)
 |agg (xs):(∀x∈xs,Wf x)→Wf (.agg xs)
 |nilf:Wf .nilf
theorem dD.wf {w:World}{F:Nat→Nat→Prop}{v:Value}{x:FD}(h:dD w F v x):x.Wf:=by
 induction h with
 |b x=>exact .b x
 |i k n h1 h2=>exact .i k n h1 h2
 |s x h=>refine .s _ ?_;simp_all
 |nilf=>exact .nilf
 |sl0 a cap=>exact .sl [] ak ak
 |sl b off cap es xs vs h1 h2 h3 h5 h6 h7 ih=>
  refine .sl xs h2 fun x hx=>?_;obtain⟨i,hi,rfl⟩:=bI hx;have hc:=h5 i hi;have e:xs.getD i .nilf=xs[i]:=by simp[av,hi]
  rw[e]at hc;have key:∀j,j<es→(xs[i].cells.getD j .nilf).Wf:=ap
  generalize xs[i]=y at*;cases y with
  |agg ys=>refine .agg ys fun z hz=>?_;grind[List.getElem_of_mem,FD.cells]
  |_=>exact key 0 (by grind[FD.cells])
 |agg vs xs h1 h2 ih=>refine .agg xs fun x hx=>?_;grind[List.getElem_of_mem]
theorem qx {P:Program}{G:Nat→List FD}{f:FuncId}{xs:List FD}{H:bR}{n:Nat}{Q:D→bR→Nat→Prop}(hc:cW P f)(h:(∀x∈xs,x.Wf)→cS P G f (xs.map .fz) H n Q):cS P G f (xs.map .fz) H n Q:=by
 refine⟨hc,fun w L F vs hok hvs=>(h ?_).2 w L F vs hok hvs⟩;intro x hx;obtain⟨i,hi,rfl⟩:=bI hx;have:=((cA.iff _ _).1 hvs).2 i ap;rw[yo _ _ hi]at this;simp only[bw]at this;have e:xs.getD i .nilf=xs[i]:=by simp[av,hi]
 rw[e]at this;exact this.wf
theorem iN {xs:List FD}(h:(FD.sl xs).Wf):xs.length≤dt:=by cases h;omega
theorem oU {xs:List FD}(h:(FD.sl xs).Wf):∀x∈xs,x.Wf:=by cases h;omega
theorem jh {xs:List FD}(h:(FD.agg xs).Wf):∀x∈xs,x.Wf:=by cases h;omega
theorem Gs {l:List UInt8}(h:(FD.s l).Wf):l.length≤dt:=by cases h;omega
theorem zv9 {n:Nat}:(0≤(n:Int))=True:=ak
attribute [go_sem] zv9 Int.toNat_natCast Int.ofNat_lt Int.ofNat_le Nat.zero_add Nat.add_zero Nat.mul_one Nat.one_mul Nat.zero_mul Nat.mul_zero Nat.zero_le Nat.le_refl List.length_map Int.natCast_inj
theorem bh {α:Type}{f:α→FD}{l:List α}{i:Nat}(h:i<l.length):(l.map f).getD i .nilf=f l[i]:=ap
@[go_sem] theorem zQO:((0:Nat):Int)=0:=rfl
@[go_sem] theorem zQP {n:Nat}:((n+1:Nat):Int)=(n:Int)+1:=rfl
@[go_sem] theorem zMs {n:Nat}:inK .i64 (n:Int)=(n≤9223372036854775807):=by simp only[inK,DO,DN,fF];omega
@[go_sem] theorem zKz {n:Nat}:inK .i64 ((n:Int)+1)=(n+1≤9223372036854775807):=by simp only[inK,DO,DN,fF];omega
theorem ZY {fr:Nat→D}:pM fr []=True:=rfl
theorem zw6 {fr:Nat→D}{k:Nat}{d:D}{l:List (Nat×D)}:pM fr ((k,d)::l)=(fr k=d∧pM fr l):=rfl
theorem ZZ {H:bR}:iO H []=True:=rfl
theorem zw7 {H:bR}{i:Id}{o:Option O}{l:List (Id×Option O)}:iO H ((i,o)::l)=(H i=o∧iO H l):=rfl
attribute [go_sem] ZY zw6 ZZ zw7 D.fz.injEq FD.i.injEq FD.b.injEq FD.sl.injEq FD.s.injEq
structure Str where
 l:List UInt8
 deriving DecidableEq,Inhabited
@[go_sem] theorem zN8 {a b:Str}:(a.l=b.l)=(a=b):=by cases a;cases b;simp
class Enc (α:Type) where
 enc:α→FD
 dec:FD→α
 dec_enc:∀a,dec (enc a)=a
def enc {α:Type}[Enc α](a:α):FD:=Enc.enc a
def dec {α:Type}[Enc α](x:FD):α:=Enc.dec x
@[go_sem] theorem dec_enc {α:Type}[Enc α](a:α):dec (enc a)=a:=Enc.dec_enc a
instance:Enc Bool:=⟨.b,fun| .b x=>x|_=>false,fun _=>rfl⟩
instance:Enc Int:=⟨.i .i64,fun| .i _ n=>n|_=>0,fun _=>rfl⟩
instance:Enc Str:=⟨fun s=> .s s.l,fun| .s l=>⟨l⟩|_=>⟨[]⟩,fun _=>rfl⟩
instance {α:Type}[Enc α]:Enc (List α):=⟨fun l=> .sl (l.map enc),fun| .sl xs=>xs.map dec|_=>[],fun a=>by simp only[bX];rw[show(dec∘enc:α→α)=id from funext fun a=>dec_enc a];simp⟩
@[go_sem] theorem PM {b:Bool}:enc b= .b b:=rfl
@[go_sem] theorem zD {n:Int}:enc n= .i .i64 n:=rfl
@[go_sem] theorem DJ {s:Str}:enc s= .s s.l:=rfl
@[go_sem] theorem zKt {α:Type}[Enc α]{l:List α}:enc l= .sl (l.map enc):=rfl
@[go_sem] theorem zKn {b:Bool}:dec (.b b)=b:=rfl
@[go_sem] theorem zMb {n:Int}{k:IntKind}:dec (.i k n)=n:=rfl
@[go_sem] theorem zOy {α:Type}[Enc α]{l:List α}:dec (.sl (l.map enc))=l:=dec_enc l
@[go_sem] theorem zQX {l:List UInt8}:dec (α:=Str) (.s l)=⟨l⟩:=rfl
@[go_sem] theorem yx {α:Type}[Enc α]{xs ys:List FD}:dec (α:=List α) (.sl (xs++ys))=dec (.sl xs)++dec (.sl ys):=aE
@[go_sem] theorem sd {α:Type}[Enc α]{x:FD}{xs:List FD}:dec (α:=List α) (.sl (x::xs))=dec x::dec (.sl xs):=rfl
@[go_sem] theorem sv {α:Type}[Enc α]:dec (α:=List α) (.sl [])=[]:=rfl
def iW:Tbl:=fun _=>none
def Tbl.add (T:Tbl)(f:FuncId)(t:List FD→Option (D×Prop)):Tbl:=fun g=>if g=f then some t else T g
@[go_sem] theorem zLR {T:Tbl}{f g:FuncId}{t:List FD→Option (D×Prop)}:T.add f t g=if g=f then some t else T g:=rfl
@[go_sem] theorem zQK {g:FuncId}:iW g=none:=rfl
section
variable {P:Program} {G:Nat→List FD} {T:Tbl}
theorem zE:b9 P G iW:=fun _ _ _ _ _ h=>by cases h
theorem pS {f:FuncId}{t:List FD→Option (D×Prop)}(hT:b9 P G T)(h:∀xs r c,t xs=some (r,c)→c→cS P G f (xs.map .fz) H0 0 (fun d _ _=>D.val d=some r)):b9 P G (T.add f t):=by
 intro g t' xs r c ht hx hc;simp only[Tbl.add]at ht;split at ht
 ·grind
 ·exact hT _ _ _ _ _ ht hx hc
def sp1 {α ρ:Type}[Enc α][Enc ρ](f:α→ρ)(pre:α→Prop):List FD→Option (D×Prop)
 |[x]=>some (.fz (enc (f (dec x))),x=enc (dec (α:=α) x)∧pre (dec x))
 |_=>none
def sp2 {α β ρ:Type}[Enc α][Enc β][Enc ρ](f:α→β→ρ)(pre:α→β→Prop):List FD→Option (D×Prop)
 |[x,y]=>some (.fz (enc (f (dec x) (dec y))),x=enc (dec (α:=α) x)∧y=enc (dec (α:=β) y)∧pre (dec x) (dec y))
 |_=>none
def sp3 {α β γ ρ:Type}[Enc α][Enc β][Enc γ][Enc ρ](f:α→β→γ→ρ)(pre:α→β→γ→Prop):List FD→Option (D×Prop)
 |[x,y,z]=>some (.fz (enc (f (dec x) (dec y) (dec z))),x=enc (dec (α:=α) x)∧y=enc (dec (α:=β) y)∧z=enc (dec (α:=γ) z)∧pre (dec x) (dec y) (dec z))
 |_=>none
@[go_sem] theorem T4 {α ρ:Type}[Enc α][Enc ρ]{f:α→ρ}{pre:α→Prop}{x:FD}:sp1 f pre [x]=some (.fz (enc (f (dec x))),x=enc (dec (α:=α) x)∧pre (dec x)):=rfl
@[go_sem] theorem Fz {α β ρ:Type}[Enc α][Enc β][Enc ρ]{f:α→β→ρ}{pre:α→β→Prop}{x y:FD}:sp2 f pre [x,y]=some (.fz (enc (f (dec x) (dec y))),x=enc (dec (α:=α) x)∧y=enc (dec (α:=β) y)∧pre (dec x) (dec y)):=rfl
@[go_sem] theorem FB {α β γ ρ:Type}[Enc α][Enc β][Enc γ][Enc ρ]{f:α→β→γ→ρ}{pre:α→β→γ→Prop}{x y z:FD}:sp3 f pre [x,y,z]=some (.fz (enc (f (dec x) (dec y) (dec z))),x=enc (dec (α:=α) x)∧y=enc (dec (α:=β) y)∧z=enc (dec (α:=γ) z)∧pre (dec x) (dec y) (dec z)):=rfl
theorem iD {α ρ:Type}[Enc α][Enc ρ]{f:FuncId}{g:α→ρ}{pre:α→Prop}(hc:cW P f)(hT:b9 P G T)
  (h:∀a,pre a→(enc a).Wf→cS P G f [.fz (enc a)] (hpL []) 0 (fun d _ _=>D.val d=some (.fz (enc (g a))))):b9 P G (T.add f (sp1 g pre)):=by
 refine pS hT fun xs r c hx hcc=>?_;unfold sp1 at hx;grind[qx,ky]
theorem gN {α β ρ:Type}[Enc α][Enc β][Enc ρ]{f:FuncId}{g:α→β→ρ}{pre:α→β→Prop}(hc:cW P f)(hT:b9 P G T)
  (h:∀a b,pre a b→(enc a).Wf→(enc b).Wf→cS P G f [.fz (enc a),.fz (enc b)] (hpL []) 0 (fun d _ _=>D.val d=some (.fz (enc (g a b))))):b9 P G (T.add f (sp2 g pre)):=by
 refine pS hT fun xs r c hx hcc=>?_;unfold sp2 at hx;grind[qx,ky]
theorem oT {α β γ ρ:Type}[Enc α][Enc β][Enc γ][Enc ρ]{f:FuncId}{g:α→β→γ→ρ}{pre:α→β→γ→Prop}(hc:cW P f)(hT:b9 P G T)
  (h:∀a b c,pre a b c→(enc a).Wf→(enc b).Wf→(enc c).Wf→cS P G f [.fz (enc a),.fz (enc b),.fz (enc c)] (hpL []) 0 (fun d _ _=>D.val d=some (.fz (enc (g a b c))))):b9 P G (T.add f (sp3 g pre)):=by
 refine pS hT fun xs r c hx hcc=>?_;unfold sp3 at hx;grind[qx,ky]
@[go_sem] theorem zKb {x:FD}:D.val (.fz x)=some (.fz x):=rfl
@[go_sem] theorem Tc {id:Id}{es:Nat}{xs:List FD}:D.val (.ow id es xs)=some (.fz (.sl xs)):=rfl
@[go_sem] theorem zDh {xs:List FD}:D.val (.full xs)=some (.fz (.sl xs)):=rfl
@[go_sem] theorem zOo {ds:List D}:D.val (.tup ds)=(D.toFDs ds).map fun xs=> .tup (xs.map .fz):=rfl
end
def qV (len:Nat)[k:Kn Bool]:Prop:=∀b,(b=true→len=0)→k.run b
theorem qV.i {len:Nat}{k:Bool→Prop}(h:∀b,(b=true→len=0)→k b):@qV len ⟨k⟩:=h
section
variable {P:Program} {N:Nat} {t:TypeId} {x:D} {st:St} {dst:Option Tmp} {k:St→Prop}
theorem VL {op:BinOp}:@xp P N op t x st dst ⟨k⟩=wc P N op t x st dst k:=by unfold xp;rfl
@[go_sem] theorem zK2:@xp P N .eql t x st dst ⟨k⟩=@BiK _ (fG P t) ⟨fun _=>@BiK _ (rN x) ⟨fun len=>@mD (fI N dst) ⟨@qV len ⟨fun b=>k (st.put dst (.fz (.b b)))⟩⟩⟩⟩:=by rw[VL];unfold wc BiK Bi mD Chk qV;grind
@[go_sem] theorem zRK {xs:List FD}:rN (.fz (.sl xs))=some xs.length:=rfl
@[go_sem] theorem zNC {xs:List FD}:rN (.full xs)=some xs.length:=rfl
@[go_sem] theorem zRJ {id:Id}{es:Nat}{xs:List FD}:rN (.ow id es xs)=some xs.length:=rfl
@[go_sem] theorem zPD {id:Id}{es s len:Nat}:rN (.arr id es s len)=some len:=rfl
end
attribute [irreducible] qV
theorem tt {α:Type}{f:α→FD}{k:Nat}(h:∀a,(f a).cells.length=k)(l:List α):dP (l.map f) k:=by intro x hx;grind
@[go_sem] theorem zI0 {l:List Str}:dP (l.map enc) 1=True:=aU (tt (f:=enc) (k:=1) (fun _=>rfl) l)
@[go_sem] theorem zHi {α:Type}[Enc α]{l:List (List α)}:dP (l.map enc) 1=True:=aU (tt (f:=enc) (k:=1) (fun _=>rfl) l)
@[go_sem] theorem zIX {l:List Int}:dP (l.map enc) 1=True:=aU (tt (f:=enc) (k:=1) (fun _=>rfl) l)
@[go_sem] theorem zHe {l:List Bool}:dP (l.map enc) 1=True:=aU (tt (f:=enc) (k:=1) (fun _=>rfl) l)
@[go_sem] theorem zLq {k:Nat}:dP [] k=True:=by simp[dP]
@[go_sem] theorem zIW {x:FD}{xs:List FD}{k:Nat}:dP (x::xs) k=(x.cells.length=k∧dP xs k):=by simp[dP]
@[go_sem] theorem zLp {xs ys:List FD}{k:Nat}:dP (xs++ys) k=(dP xs k∧dP ys k):=by simp only[dP,aO,fF];grind
theorem QO {n b:Nat}(h:n≤4294967296)(hb:b≤64):fits n b:=by
 have h1:n≤dt:=by grind[dt]
 refine⟨h1,bz (gZ _ hb) ?_⟩;omega
theorem BJ (k:Nat):∀(ds cells:List D) (j:Nat),(ds.zipIdx j).foldl (fun cs p=>cs.set (k+p.2) p.1) cells=(ds.zipIdx 0).foldl (fun cs p=>cs.set (k+j+p.2) p.1) cells
 |[],_,_=>rfl
 |d::ds,cells,j=>by simp only[eM,bQ,bJ,bE];grind[BJ k ds _ (j+1),BJ (k+j) ds _ 1]
@[go_sem] theorem zHl {cells:List D}{k:Nat}{d:D}{ds:List D}:mh cells k (d::ds)=mh (cells.set k d) (k+1) ds:=by simp_all[mh,BJ]
@[go_sem] theorem zJL {cells:List D}{k:Nat}:mh cells k []=cells:=rfl
attribute [go_sem] List.set_cons_zero List.set_cons_succ List.take_nil
@[go_sem] theorem zUy {xs:List FD}{i:Nat}:ku xs 0 (i:Int)=xs.take i:=by simp[ku]
@[go_sem] theorem Sr {xs:List FD}{i:Nat}:ku xs (i:Int) (xs.length:Int)=xs.drop i:=by simp[ku]
@[go_sem] theorem zD2 {α:Type}[Enc α]{l:List α}{i:Nat}:(l.map enc).take i=(l.take i).map enc:=dR.symm
attribute [go_sem] false_implies true_implies imp_self
@[go_sem] theorem zUZ:List.range 0=[]:=rfl
@[go_sem] theorem zU0:List.range 1=[0]:=rfl
@[go_sem] theorem zU1:List.range 2=[0,1]:=rfl
@[go_sem] theorem zU2:List.range 3=[0,1,2]:=rfl
@[go_sem] theorem zU3:List.range 4=[0,1,2,3]:=rfl
@[go_sem] theorem zU4:List.range 5=[0,1,2,3,4]:=rfl
@[go_sem] theorem zU5:List.range 6=[0,1,2,3,4,5]:=rfl
@[go_sem] theorem zU6:List.range 7=[0,1,2,3,4,5,6]:=rfl
@[go_sem] theorem zU7:List.range 8=[0,1,2,3,4,5,6,7]:=rfl
@[go_sem] theorem zU8:List.range 9=[0,1,2,3,4,5,6,7,8]:=rfl
@[go_sem] theorem zSe:List.range 10=[0,1,2,3,4,5,6,7,8,9]:=rfl
@[go_sem] theorem zSf:List.range 11=[0,1,2,3,4,5,6,7,8,9,10]:=rfl
@[go_sem] theorem zSg:List.range 12=[0,1,2,3,4,5,6,7,8,9,10,11]:=rfl
@[go_sem] theorem zOn {ds:List D}:D.val (.agg ds)=(D.toFDs ds).map fun xs=> .fz (.agg xs):=by simp only[D.val,D.toFD,Option.map_map];rfl
@[go_sem] theorem bn {s:Str}:(⟨s.l⟩:Str)=s:=rfl
structure iY where
 code:Int
 index:Int
 deriving DecidableEq,Inhabited
instance:Enc iY:=⟨fun f=> .agg [.i .i64 f.code,.i .i64 f.index],fun| .agg [.i _ a,.i _ b]=>⟨a,b⟩|_=>⟨0,0⟩,fun _=>rfl⟩
@[go_sem] theorem zHW {f:iY}:enc f= .agg [.i .i64 f.code,.i .i64 f.index]:=rfl
def Ren (n n':Nat)(pre:Id→Id)(vn:Id→Bool)(id id':Id):Prop:=id'.2<n'∧(id'=id∨(n≤id'.2∧vn id'=false∧pre id'=id))
mutual
def Dr (n n':Nat)(pre:Id→Id)(vn:Id→Bool)(z:Id→Option (List FD))(H:bR)(d:D):D→Prop
 | .junk=>True
 | .ptr id' k=>∃id,d= .ptr id k∧Ren n n' pre vn id id'
 | .arr id' es s len=>(∃id,d= .arr id es s len∧Ren n n' pre vn id id')∨(d= .full []∧len=0∧id'.2<n')
 | .ow id' es xs=>(∃id,d= .ow id es xs∧Ren n n' pre vn id id')∨(d= .full xs∧id'.2<n')
 | .fz x=>d= .fz x∨d.toFD=some x∨∃id es xs,x= .sl xs∧d= .arr id es 0 xs.length∧z id=some xs∧dP xs es
 | .fn f caps'=>∃caps,d= .fn f caps∧Drs n n' pre vn z H caps caps'
 | .agg ds'=>∃ds,d= .agg ds∧Drs n n' pre vn z H ds ds'
 | .tup ds'=>∃ds,d= .tup ds∧Drs n n' pre vn z H ds ds'
 | .full xs=>d= .full xs
 | .rp xs=>d= .rp xs
def Drs (n n':Nat)(pre:Id→Id)(vn:Id→Bool)(z:Id→Option (List FD))(H:bR)(ds:List D):List D→Prop
 |[]=>ds=[]
 |d'::ds'=>∃d ds0,ds=d::ds0∧Dr n n' pre vn z H d d'∧Drs n n' pre vn z H ds0 ds'
end
def Zok (H:bR)(z:Id→Option (List FD)):Prop:=∀id xs,z id=some xs→xs=[]∨∃o,H id=some o∧o.virt=false∧o.cells=bA xs
section
variable {G:Nat→List FD} {N:Nat} {w:World} {L:Loc} {F:Nat→Nat→Prop} {n n':Nat} {pre:Id→Id} {vn:Id→Bool} {z:Id→Option (List FD)} {H:bR}
def pR (n:Nat)(pre:Id→Id)(vn:Id→Bool)(L:Loc):Loc:=fun id=>if n≤id.2 then(if vn id then⟨0,0,true⟩else L (pre id))else L id
def wn (z:Id→Option (List FD))(H:bR)(L:Loc)(F:Nat→Nat→Prop):Nat→Nat→Prop:=fun b k=>F b k∨∃id xs o,z id=some xs∧xs≠[]∧H id=some o∧(L id).3=false∧b=(L id).1∧(L id).2≤k
theorem xN {id id':Id}(hr:Ren n n' pre vn id id')(hu:Ub n id):pR n pre vn L id'=L id:=by
 obtain⟨h1,rfl|⟨h2,h3,rfl⟩⟩:=hr
 all_goals grind[pR,Ub]
theorem zy (hn:n≤n'):Ext w L F (Ub n) w (pR n pre vn L) (wn z H L F) (Ub n'):=
 ⟨fun _ h=>cO h hn,by grind[pR,Ub],fun _ _ h=> .inl h,fun _ _ _=>rfl,aI _,ap⟩
theorem XK (hok:OkW G w L F (Ub n) H)(hz:Zok H z){id:Id}{es:Nat}{xs:List FD}{v:Value}(hv:bw w L F (Ub n) (.arr id es 0 xs.length) v)(hzi:z id=some xs)(hl:dP xs es):
  dD w (wn z H L F) v (.sl xs):=by
 simp only[bw]at hv;obtain⟨hu,a,cap,rfl,h1,h2,h3⟩:=hv;rcases hz id xs hzi with rfl|⟨o,ho,hov,hoc⟩
 ·exact .sl0 a cap
 ·refine dD.sl_mk h1 h2 fun hpos=>?_;have hne:xs≠[]:=by rintro rfl;simp at hpos
  rcases h3 with h3|⟨rfl,hL3,hlt,_⟩
  ·omega
  ·obtain⟨hnF,cs,T,hcs,hsz,hcell⟩:=iL (hok.live id o ho).2 hL3;have hfl:(bA xs).length=xs.length*es:=mw (jJ hl);refine⟨(L id).1,(L id).2+0,es,fun i j=>cs.getD ((L id).2+(i*es+j)) undef,rfl,fun k _=> .inr ap,jJ hl,fun i j hi hj=>?_,fun i j hi hj=>?_⟩
   ·have hlt2:i*es+j<o.cells.length:=by rw[hoc,hfl];exact vJ hi hj
    obtain⟨u,hu1,_⟩:=hcell _ hlt2;rw[nA hcs,show(L id).2+0+i*es+j=(L id).2+(i*es+j) by omega,hu1];simp_all
   ·have hlt2:i*es+j<o.cells.length:=by rw[hoc,hfl];exact vJ hi hj
    obtain⟨u,hu1,hu2⟩:=hcell _ hlt2;rw[hoc,uG (jJ hl) hi hj]at hu2;simp only[cu,hu1,bD];simp only[bw]at hu2;exact hu2.mono (fun _ _ _=>rfl) fun _ _ h=> .inl h
mutual
theorem DV (hok:OkW G w L F (Ub n) H)(hz:Zok H z)(hn:n≤n'):∀(d' d:D) (v:Value),Dr n n' pre vn z H d d'→bw w L F (Ub n) d v→bw w (pR n pre vn L) (wn z H L F) (Ub n') d' v
 | .junk,_,_,_,_=>by simp[bw]
 | .ptr id' k,d,v,h,hv=>by simp only[Dr]at h;obtain⟨id,rfl,hr⟩:=h;simp only[bw]at hv ⊢;rw[xN hr hv.1];exact⟨hr.1,hv.2⟩
 | .arr id' es s len,d,v,h,hv=>by
  simp only[Dr]at h;rcases h with⟨id,rfl,hr⟩|⟨rfl,rfl,hu⟩
  ·simp only[bw]at hv ⊢;rw[xN hr hv.1];exact⟨hr.1,hv.2⟩
  ·simp only[bw]at hv ⊢;obtain⟨a,rfl,_⟩:=hv;exact⟨hu,a,0,rfl,aI _,gL _,.inl rfl⟩
 | .fz x,d,v,h,hv=>by
  simp only[Dr]at h;rcases h with rfl|h|⟨id,es,xs,rfl,rfl,hzi,hl⟩
  ·exact hv.ext (zy hn)
  ·have:=bw.toFD _ _ _ hv h;simp only[bw];exact this.mono (fun _ _ _=>rfl) fun _ _ h=> .inl h
  grind[bw,XK]
 | .ow id' es xs,d,v,h,hv=>by
  simp only[Dr]at h;rcases h with⟨id,rfl,hr⟩|⟨rfl,hu⟩
  ·simp only[bw]at hv ⊢;obtain⟨h1,h2,a,cap,h3,h4⟩:=hv;rw[xN hr h1];exact⟨hr.1,h2.mono (fun _ _ _=>rfl) fun _ _ h=> .inl h,a,cap,h3,h4⟩
  ·simp only[bw]at hv ⊢;obtain⟨a,rfl,h2⟩:=hv;exact⟨hu,h2.mono (fun _ _ _=>rfl) fun _ _ h=> .inl h,a,_,rfl,.inl rfl⟩
 | .fn f caps',d,v,h,hv=>by simp only[Dr]at h;obtain⟨caps,rfl,h⟩:=h;simp only[bw]at hv ⊢;obtain⟨vs,rfl,hv⟩:=hv;exact⟨vs,rfl,zC hok hz hn caps' caps vs h hv⟩
 | .agg ds',d,v,h,hv=>by simp only[Dr]at h;obtain⟨ds,rfl,h⟩:=h;simp only[bw]at hv ⊢;obtain⟨vs,rfl,hv⟩:=hv;exact⟨vs,rfl,zC hok hz hn ds' ds vs h hv⟩
 | .tup ds',d,v,h,hv=>by simp only[Dr]at h;obtain⟨ds,rfl,h⟩:=h;simp only[bw]at hv ⊢;obtain⟨vs,rfl,hv⟩:=hv;exact⟨vs,rfl,zC hok hz hn ds' ds vs h hv⟩
 | .full xs,d,v,h,hv=>by simp only[Dr]at h;subst h;exact hv.ext (zy hn)
 | .rp xs,d,v,h,hv=>by simp only[Dr]at h;subst h;exact hv.ext (zy hn)
theorem zC (hok:OkW G w L F (Ub n) H)(hz:Zok H z)(hn:n≤n'):∀(ds' ds:List D) (vs:List Value),Drs n n' pre vn z H ds ds'→cA w L F (Ub n) ds vs→cA w (pR n pre vn L) (wn z H L F) (Ub n') ds' vs
 |[],ds,vs,h,hv=>by
  simp only[Drs]at h;subst h;cases vs with
  |nil=>trivial
  |cons=>exact hv.elim
 |d'::ds',ds,vs,h,hv=>by
  simp only[Drs]at h;obtain⟨d,ds0,rfl,h1,h2⟩:=h;cases vs with
  |nil=>exact hv.elim
  |cons v vs=>simp only[cA]at hv ⊢;exact⟨DV hok hz hn d' d v h1 hv.1,zC hok hz hn ds' ds0 vs h2 hv.2⟩
end
def Hr (n n':Nat)(pre:Id→Id)(vn:Id→Bool)(z:Id→Option (List FD))(H H':bR):Prop:=
 ∀id' o',H' id'=some o'→(vn id'=true∧n≤id'.2∧id'.2<n'∧o'.virt=true∧o'.cells=[])∨z (pre id')=none∧Ren n n' pre vn (pre id') id'∧∃o,H (pre id')=some o∧o'.virt=o.virt∧o'.cells.length=o.cells.length∧
  ∀j,j<o'.cells.length→Dr n n' pre vn z H (o.cells.getD j .junk) (o'.cells.getD j .junk)
theorem Mf {st st':St}(pre:Id→Id)(vn:Id→Bool)(z:Id→Option (List FD))(hn:st.n≤st'.n)(hz:Zok st.H z)(hH:Hr st.n st'.n pre vn z st.H st'.H)
  (hinj:∀id1 id2 o1 o2,st'.H id1=some o1→st'.H id2=some o2→pre id1=pre id2→id1=id2)
  (hfr:∀t,Dr st.n st'.n pre vn z st.H (st.fr t) (st'.fr t)):gH G N st st':=by
 intro a w L F h;have hok:=h.ok;have live:∀id' o',st'.H id'=some o'→(pR st.n pre vn L id').3=false→∃o,st.H (pre id')=some o∧pR st.n pre vn L id'=L (pre id'):=fun id' o' ho hv=>by
  rcases hH id' o' ho with⟨q1,q2,_,_,_⟩|⟨_,hr,o,h1,h2,_⟩
  ·simp_all[pR]
  exact⟨o,h1,xN hr (hok.live _ _ h1).1⟩
 have own:∀b k,Own st'.H (pR st.n pre vn L) b k→Own st.H L b k:=by rintro b k ⟨id',o',h1,h2,h3,h4⟩;obtain⟨o,g1,g3⟩:=live id' o' h1 h2;rw[g3]at h2 h3 h4;exact⟨pre id',o,g1,h2,h3,h4⟩
 refine⟨pR st.n pre vn L,wn z st.H L F,⟨⟨fun b k hb=>?_,fun id' o' ho=>?_,fun id1 id2 o1 o2 h1 h2 v1 v2 e=>?_,rH (fun _ _ h=> .inl h) (fun _ _ _=>rfl) hok.glob⟩,h.size,fun t=>DV hok hz hn _ _ _ (hfr t) (h.fr t),h.nd⟩,
  ⟨fun id hid=>cO hid hn,(zy (w:=w) (F:=F) (z:=z) (H:=st.H) hn).l,fun _ _ h=> .inl h,aI _,fun _ _ _=>rfl,fun _ _ _ _=>rfl,ap,fun b k hb=>?_,ap,rfl,rfl,rfl,aI _⟩⟩
 ·rcases hb with hb|⟨id,xs,o,h1,h2,h3,h4,rfl,_⟩
  ·exact hok.fb b k hb
  ·exact hok.blk_lt h3 h4
 ·rcases hH id' o' ho with⟨q1,q2,q3,q4,q5⟩|⟨hzn,hr,o,h1,h2,h3,h4⟩
  ·refine⟨q3,?_⟩;unfold iT pR;rw[aF q2,aF q1];grind
  obtain⟨hu,hob⟩:=hok.live _ _ h1;have eL:=xN (L:=L) hr hu;refine⟨hr.1,?_⟩;unfold iT at hob ⊢;rw[eL];cases hv:(L (pre id')).3
  ·simp only[hv,bK,cd]at hob ⊢;obtain⟨g1,cs,T,g2,g3,g4⟩:=hob;refine⟨?_,cs,T,g2,ae,fun j hj=>?_⟩
   ·rintro k hk (hF|⟨id,xs,oz,z1,z2,z3,z4,e,_⟩)
    ·grind
    ·have:=hok.inj (pre id') id o oz h1 z3 hv z4 e;grind
   grind[DV]
  grind
 ·obtain⟨p1,g1,g3⟩:=live id1 o1 h1 v1;obtain⟨p2,g4,g6⟩:=live id2 o2 h2 v2;rw[g3]at v1;rw[g6]at v2;rw[g3,g6]at e;exact hinj id1 id2 o1 o2 h1 h2 (hok.inj _ _ _ _ g1 g4 v1 v2 e)
 ·rcases hb with hb|⟨id,xs,o,h1,h2,h3,h4,rfl,h6⟩
  ·grind
  ·exact .inr (.inr ⟨id,o,h3,h4,rfl,h6⟩)
end
def nf:List (Id×Id)→Id→Id
 |[],i=>i
 |(a,b)::l,i=>if i=a then b else nf l i
def zL:List (Id×List FD)→Id→Option (List FD)
 |[],_=>none
 |(a,xs)::l,i=>if i=a then some xs else zL l i
def vL:List Id→Id→Bool
 |[],_=>false
 |a::l,i=>decide (i=a)||vL l i
def ZE (xs:List FD):Option O→Prop
 |none=>False
 |some o=>o.cells=bA xs∧(o.virt=true→xs=[])
def qZ (H:bR):List (Id×List FD)→Prop
 |[]=>True
 |(i,xs)::l=>ZE xs (H i)∧qZ H l
theorem qZ.ok {H:bR}:∀{l:List (Id×List FD)},qZ H l→Zok H (zL l)
 |[],_,_,_,h=>by cases h
 |(i,ys)::l,h,id,xs,e=>by
  simp only[zL]at e;split at e
  ·rename_i e';subst e';obtain rfl:=bq e;have h1:=h.1;cases ho:H id with
   |none=>rw[ho]at h1;exact h1.elim
   |some o=>
    rw[ho]at h1;cases hv:o.virt with
    |true=>exact .inl (h1.2 hv)
    |false=>exact .inr ⟨o,rfl,hv,h1.1⟩
  ·exact qZ.ok h.2 id xs e
def HO (n n':Nat)(pre:Id→Id)(vn:Id→Bool)(z:Id→Option (List FD))(H:bR)(o':O):Option O→Prop
 |none=>False
 |some o=>o'.virt=o.virt∧Drs n n' pre vn z H o.cells o'.cells
def HE (n n':Nat)(pre:Id→Id)(vn:Id→Bool)(z:Id→Option (List FD))(H:bR)(id':Id)(o':O):Prop:=
 if vn id'=true then n≤id'.2∧id'.2<n'∧o'.virt=true∧o'.cells=[]else z (pre id')=none∧Ren n n' pre vn (pre id') id'∧HO n n' pre vn z H o' (H (pre id'))
def HrL (n n':Nat)(pre:Id→Id)(vn:Id→Bool)(z:Id→Option (List FD))(H:bR):List (Id×Option O)→Prop
 |[]=>True
 |(i,some o)::l=>HE n n' pre vn z H i o∧HrL n n' pre vn z H l
 |(_,none)::l=>HrL n n' pre vn z H l
section
variable {n n':Nat} {pre:Id→Id} {vn:Id→Bool} {z:Id→Option (List FD)} {H:bR}
theorem Dp:∀{ds' ds:List D},Drs n n' pre vn z H ds ds'→ds'.length=ds.length∧∀j,j<ds'.length→Dr n n' pre vn z H (ds.getD j .junk) (ds'.getD j .junk)
 |[],ds,h=>by simp_all[Drs]
 |d'::ds',ds,h=>by simp only[Drs]at h;obtain⟨d,ds0,rfl,h1,h2⟩:=h;grind[Dp h2]
theorem To {id':Id}{o':O}(h:HE n n' pre vn z H id' o'):(vn id'=true∧n≤id'.2∧id'.2<n'∧o'.virt=true∧o'.cells=[])∨z (pre id')=none∧Ren n n' pre vn (pre id') id'∧∃o,H (pre id')=some o∧o'.virt=o.virt∧o'.cells.length=o.cells.length∧
  ∀j,j<o'.cells.length→Dr n n' pre vn z H (o.cells.getD j .junk) (o'.cells.getD j .junk):=by
 unfold HE at h;split at h
 ·grind
 ·obtain⟨h1,h2,h3⟩:=h;refine .inr ⟨h1,h2,?_⟩;cases ho:H (pre id')with
  |none=>rw[ho]at h3;exact h3.elim
  |some o=>rw[ho]at h3;obtain⟨g1,g2⟩:=Dp h3.2;exact⟨o,rfl,h3.1,g1,g2⟩
theorem HrL.ok:∀{l:List (Id×Option O)},HrL n n' pre vn z H l→Hr n n' pre vn z H (hpL l)
 |[],_,_,_,h=>by cases h
 |(i,some o)::l,h,id',o',e=>by
  simp only[hpL]at e;split at e
  ·rename_i e';subst e';obtain rfl:=bq e;exact To h.1
  ·exact HrL.ok h.2 id' o' e
 |(i,none)::l,h,id',o',e=>by
  simp only[hpL]at e;split at e
  ·cases e
  ·exact HrL.ok (l:=l) h id' o' e
def rY (pre:Id→Id):List (Id×Option O)→Prop
 |[]=>True
 |(i,_)::l=>(∀p∈l,pre p.1≠pre i)∧rY pre l
theorem D6:∀{l:List (Id×Option O)} {id:Id} {o:O},hpL l id=some o→∃p∈l,p.1=id
 |[],_,_,h=>by cases h
 |(i,o')::l,id,o,h=>by
  simp only[hpL]at h;split at h
  ·rename_i e;exact⟨_,List.mem_cons_self,e.symm⟩
  ·obtain⟨p,h1,h2⟩:=D6 h;exact⟨p,cg _ h1,h2⟩
theorem rY.inj:∀{l:List (Id×Option O)},rY pre l→∀id1 id2 o1 o2,hpL l id1=some o1→hpL l id2=some o2→pre id1=pre id2→id1=id2
 |[],_,_,_,_,_,h,_,_=>by cases h
 |(i,o)::l,h,id1,id2,o1,o2,h1,h2,e=>by
  simp only[hpL]at h1 h2;by_cases e1:id1=i
  ·by_cases e2:id2=i
   ·grind
   ·rw[az e2]at h2;obtain⟨p,hp,rfl⟩:=D6 h2;exact absurd ap (h.1 p hp)
  ·rw[az e1]at h1;by_cases e2:id2=i
   ·obtain⟨p,hp,rfl⟩:=D6 h1;exact absurd (by rw[e,e2]) (h.1 p hp)
   ·rw[az e2]at h2;exact rY.inj h.2 id1 id2 o1 o2 h1 h2 e
def FrR (n n':Nat)(pre:Id→Id)(vn:Id→Bool)(z:Id→Option (List FD))(H:bR)(fr:Nat→D):List (Nat×D)→Prop
 |[]=>True
 |(k,d)::l=>Dr n n' pre vn z H (fr k) d∧FrR n n' pre vn z H fr l
theorem FrR.get {fr:Nat→D}:∀{l:List (Nat×D)},FrR n n' pre vn z H fr l→∀t,Dr n n' pre vn z H (fr t) (frL l t)
 |[],_,_=>by simp[frL,Dr]
 |(k,d)::l,h,t=>by
  simp only[frL];split
  ·rename_i e;subst e;exact h.1
  ·exact FrR.get h.2 t
theorem eX {G:Nat→List FD}{N:Nat}{st:St}{l:List (Nat×D)}{hl:List (Id×Option O)}{m:Nat}(pr:List (Id×Id))(vs:List Id)(zs:List (Id×List FD))
  (hn:st.n≤m)(hz:qZ st.H zs)(hh:HrL st.n m (nf pr) (vL vs) (zL zs) st.H hl)(ha:rY (nf pr) hl)(hf:FrR st.n m (nf pr) (vL vs) (zL zs) st.H st.fr l):
  gH G N st ⟨frL l,hpL hl,m⟩:=
 Mf (st':=⟨frL l,hpL hl,m⟩) (nf pr) (vL vs) (zL zs) hn hz.ok hh.ok (fun id1 id2 o1 o2 h1 h2 e=>ha.inj id1 id2 o1 o2 h1 h2 e) fun t=>hf.get t
theorem Ix:∀(ds:List D),(∀d∈ds,∃x,d= .fz x)→Drs n n' pre vn z H ds ds
 |[],_=>by rfl
 |d::ds,h=>by obtain⟨x,rfl⟩:=h d ak;grind[Drs,Dr,Ix ds fun d hd=>h d (by simp[hd])]
@[go_sem] theorem zQq {xs:List FD}:Drs n n' pre vn z H (bA xs) (bA xs)=True:=by refine aU (Ix _ fun d hd=>?_);grind[bA]
@[go_sem] theorem zR6:Drs n n' pre vn z H [] []=True:=by simp[Drs]
@[go_sem] theorem SV {d d':D}{ds ds':List D}:Drs n n' pre vn z H (d::ds) (d'::ds')=(Dr n n' pre vn z H d d'∧Drs n n' pre vn z H ds ds'):=by simp only[Drs,db,fF];grind
@[go_sem] theorem zR8 {id id':Id}{k k':Nat}:Dr n n' pre vn z H (.ptr id k) (.ptr id' k')=(k=k'∧Ren n n' pre vn id id'):=by simp only[Dr,D.ptr.injEq,fF];grind
@[go_sem] theorem zR2 {id id':Id}{es s len es' s' len':Nat}:Dr n n' pre vn z H (.arr id es s len) (.arr id' es' s' len')=(es=es'∧s=s'∧len=len'∧Ren n n' pre vn id id'):=by simp only[Dr,D.arr.injEq,reduceCtorEq,false_and,ct,fF];grind
@[go_sem] theorem zQu {id':Id}{es s len:Nat}:Dr n n' pre vn z H (.full []) (.arr id' es s len)=(len=0∧id'.2<n'):=by simp[Dr]
@[go_sem] theorem zR5 {id:Id}{es s len:Nat}{xs:List FD}:Dr n n' pre vn z H (.arr id es s len) (.fz (.sl xs))=(s=0∧len=xs.length∧z id=some xs∧dP xs es):=by simp only[Dr,reduceCtorEq,D.toFD,FD.sl.injEq,D.arr.injEq,false_or,fF];grind
@[go_sem] theorem UJ {id id':Id}{es es':Nat}{xs xs':List FD}:Dr n n' pre vn z H (.ow id es xs) (.ow id' es' xs')=(es=es'∧xs=xs'∧Ren n n' pre vn id id'):=by simp only[Dr,D.ow.injEq,reduceCtorEq,false_and,ct,fF];grind
@[go_sem] theorem P' {id':Id}{es:Nat}{xs xs':List FD}:Dr n n' pre vn z H (.full xs) (.ow id' es xs')=(xs=xs'∧id'.2<n'):=by simp_all[Dr]
@[go_sem] theorem zQt {id:Id}{es:Nat}{xs:List FD}{y:FD}:Dr n n' pre vn z H (.ow id es xs) (.fz y)=(FD.sl xs=y):=by simp_all[Dr,D.toFD]
@[go_sem] theorem Hq {x y:FD}:Dr n n' pre vn z H (.fz x) (.fz y)=(x=y):=by simp only[Dr,D.fz.injEq,D.toFD,aL,reduceCtorEq,false_and,and_false,exists_false,ct,or_self]
@[go_sem] theorem SX {xs:List FD}{y:FD}:Dr n n' pre vn z H (.full xs) (.fz y)=(FD.sl xs=y):=by simp_all[Dr,D.toFD]
@[go_sem] theorem zN1 {xs ys:List FD}:Dr n n' pre vn z H (.full xs) (.full ys)=(xs=ys):=by simp_all[Dr]
@[go_sem] theorem zUN {f g:FuncId}{c c':List D}:Dr n n' pre vn z H (.fn f c) (.fn g c')=(f=g∧Drs n n' pre vn z H c c'):=by simp only[Dr,D.fn.injEq,fF];grind
@[go_sem] theorem SY {id:Id}:Ren n n' pre vn id id=(id.2<n'):=by simp[Ren]
theorem xM {id id':Id}:Ren n n' pre vn id id'=(id'.2<n'∧(id'=id∨(n≤id'.2∧vn id'=false∧pre id'=id))):=rfl
@[go_sem] theorem zR3 {fr:Nat→D}:FrR n n' pre vn z H fr []=True:=rfl
@[go_sem] theorem zR4 {fr:Nat→D}{k:Nat}{d:D}{l:List (Nat×D)}:FrR n n' pre vn z H fr ((k,d)::l)=(Dr n n' pre vn z H (fr k) d∧FrR n n' pre vn z H fr l):=rfl
@[go_sem] theorem zUO:HrL n n' pre vn z H []=True:=rfl
@[go_sem] theorem zUP {i:Id}{o:O}{l:List (Id×Option O)}:HrL n n' pre vn z H ((i,some o)::l)=(HE n n' pre vn z H i o∧HrL n n' pre vn z H l):=rfl
@[go_sem] theorem zUQ {i:Id}{o:O}:HE n n' pre vn z H i o=if vn i=true then n≤i.2∧i.2<n'∧o.virt=true∧o.cells=[]else z (pre i)=none∧Ren n n' pre vn (pre i) i∧HO n n' pre vn z H o (H (pre i)):=rfl
@[go_sem] theorem zUS {o o':O}:HO n n' pre vn z H o' (some o)=(o'.virt=o.virt∧Drs n n' pre vn z H o.cells o'.cells):=rfl
@[go_sem] theorem zUW:qZ H []=True:=rfl
@[go_sem] theorem zUX {i:Id}{xs:List FD}{l:List (Id×List FD)}:qZ H ((i,xs)::l)=(ZE xs (H i)∧qZ H l):=rfl
@[go_sem] theorem zUY {o:O}{xs:List FD}:ZE xs (some o)=(o.cells=bA xs∧(o.virt=true→xs=[])):=rfl
@[go_sem] theorem zUL:rY pre []=True:=rfl
@[go_sem] theorem zUM {i:Id}{o:Option O}{l:List (Id×Option O)}:rY pre ((i,o)::l)=((∀p∈l,pre p.1≠pre i)∧rY pre l):=rfl
@[go_sem] theorem zUT {i:Id}:nf [] i=i:=rfl
@[go_sem] theorem zUU {a b i:Id}{l:List (Id×Id)}:nf ((a,b)::l) i=if i=a then b else nf l i:=rfl
@[go_sem] theorem zSc {i:Id}:zL [] i=none:=rfl
@[go_sem] theorem zSd {a i:Id}{xs:List FD}{l:List (Id×List FD)}:zL ((a,xs)::l) i=if i=a then some xs else zL l i:=rfl
@[go_sem] theorem zSa {i:Id}:vL [] i=false:=rfl
@[go_sem] theorem zSb {a i:Id}{l:List Id}:vL (a::l) i=(decide (i=a)||vL l i):=rfl
attribute [go_sem] List.forall_mem_cons List.not_mem_nil List.mem_cons forall_eq_or_imp forall_eq Option.some.injEq reduceCtorEq
@[go_sem] theorem Pq:bA []=[]:=rfl
@[go_sem] theorem yX {xs ys:List FD}:bA xs++bA ys=bA (xs++ys):=by simp[bA]
end
section
variable {P:Program} {G:Nat→List FD}
theorem uF {f:FuncId}{args args':List D}{H H':bR}{n n':Nat}{R:D→bR→Nat→Prop}(hlen:args'.length=args.length)
  (hW:gH G args.length ⟨frL (lE 0 args),H,n⟩ ⟨frL (lE 0 args'),H',n'⟩)(h:cS P G f args' H' n' R):cS P G f args H n R:=by
 refine⟨h.1,fun w L F vs hok hvs=>?_⟩;have hvl:=(cA.iff _ _).1 hvs;have hrel:Rel G args.length ⟨frL (lE 0 args),H,n⟩ {tmps:=vs.toArray,defers:=[]} w L F:=by
  refine⟨hok,ap,fun t=>?_,rfl⟩;simp only;rw[←sx];simp only[rZ];by_cases ht:t<args.length
  ·have:=hvl.2 t ht;simp_all
  ·simp_all[bw]
 obtain⟨L1,F1,h1,h2⟩:=hW _ w L F hrel;have hvs':cA w L1 F1 (Ub n') args' vs:=by rw[cA.iff];refine⟨ae,fun j hj=>?_⟩;have:=h1.fr j;simp only at this;rw[←sx]at this;simp only[rZ]at this;simpa[cu,av]using this
 refine(h.2 w L1 F1 vs h1.ok hvs').mono fun e w' he=>?_;obtain⟨v,d,H2,n2,L2,F2,e1,e2,e3,e4,e5⟩:=he;exact⟨v,d,H2,n2,L2,F2,e1,e2,e3,e4,dH.trans h2 e5⟩
theorem Dq {f:FuncId}{args args':List D}{H:bR}{hl:List (Id×Option O)}{n n':Nat}{R:D→bR→Nat→Prop}(pr:List (Id×Id))(vs:List Id)(zs:List (Id×List FD))(hlen:args'.length=args.length)
  (hn:n≤n')(hz:qZ H zs)(hh:HrL n n' (nf pr) (vL vs) (zL zs) H hl)(ha:rY (nf pr) hl)(hf:Drs n n' (nf pr) (vL vs) (zL zs) H args args')
  (h:cS P G f args' (hpL hl) n' R):cS P G f args H n R:=by
 refine uF hlen ?_ h;refine Mf (st':=⟨frL (lE 0 args'),hpL hl,n'⟩) (nf pr) (vL vs) (zL zs) hn hz.ok hh.ok (fun id1 id2 o1 o2 h1 h2 e=>ha.inj id1 id2 o1 o2 h1 h2 e) fun t=>?_;simp only;rw[←sx,←sx];grind[rZ,Dp,Dr]
end
theorem JZ {xs:List FD}(h:dP xs 1):(bA xs).length=xs.length:=by rw[mw (jJ h),fO]
class One (α:Type)[Enc α]:Prop where
 one:∀a:α,(enc a).cells=[enc a]
 ob:∀a:α,fh (.fz (enc a))=true
instance:One Str:=⟨fun _=>rfl,fun _=>rfl⟩
instance:One Int:=⟨fun _=>rfl,fun _=>rfl⟩
instance:One Bool:=⟨fun _=>rfl,fun _=>rfl⟩
instance {α:Type}[Enc α]:One (List α):=⟨fun _=>rfl,fun _=>rfl⟩
section
variable {α:Type} [Enc α] [One α]
theorem ia:∀(l:List α),bA (l.map enc)=l.map fun a=> .fz (enc a)
 |[]=>rfl
 |a::l=>by grind[bA,One.one,ia l]
@[go_sem] theorem zDN {l:List α}:(bA (l.map enc)).length=l.length:=by rw[ia];simp
@[go_sem] theorem zBU {l:List α}{i:Nat}:(bA (l.map enc)).take i=bA ((l.take i).map enc):=by rw[ia,ia,dR]
@[go_sem] theorem zBR {l:List α}{i:Nat}:(bA (l.map enc)).drop i=bA ((l.drop i).map enc):=by rw[ia,ia,dQ]
@[go_sem] theorem zDK {l:List α}:(bA (l.map enc)).all fh=true:=by simp_all[ia,One.ob]
theorem nM {l:List α}{i:Nat}(h:i<l.length):(bA (l.map enc)).getD i .junk= .fz (enc l[i]):=by simp_all[ia]
@[go_sem] theorem zLC:∀{l:List α},ri (bA (l.map enc))=some (l.map enc):=fun{l}=>by
 rw[ia];induction l with
 |nil=>rfl
 |cons a l ih=>
  have h1:=One.ob a;simp only[aM];generalize enc a=x at h1 ⊢;cases x with
  |agg _=>simp[fh]at h1
  |_=>simp only[ri,ih,bL]
theorem jI {l:List α}{i:Nat}{a:α}:(bA (l.map enc)).set i (.fz (enc a))=bA ((l.set i a).map enc):=by rw[ia,ia,fZ]
theorem J1 {l:List α}{a:α}:bA (l.map enc)++[.fz (enc a)]=bA ((l++[a]).map enc):=by rw[ia,ia];simp
@[go_sem] theorem zDM {l:List α}:(bA (l.map enc)).isEmpty=l.isEmpty:=by rw[ia];simp
end
@[go_sem] theorem zE3 {xs:List FD}:(bA [.sl xs]).all fh=true:=rfl
@[go_sem] theorem zGI {l:List UInt8}:(bA [.s l]).all fh=true:=rfl
@[go_sem] theorem zGH {k:IntKind}{n:Int}:(bA [.i k n]).all fh=true:=rfl
@[go_sem] theorem zE5 {xs:List FD}:bA [.sl xs]=[.fz (.sl xs)]:=rfl
@[go_sem] theorem zGK {l:List UInt8}:bA [.s l]=[.fz (.s l)]:=rfl
@[go_sem] theorem zGJ {k:IntKind}{n:Int}:bA [.i k n]=[.fz (.i k n)]:=rfl
@[go_sem] theorem zDJ {cs xs:List FD}:(bA (.agg cs::xs)).all fh=((cs.map D.fz).all fh&&(bA xs).all fh):=by simp only[bA,cU,List.all_append];rfl
@[go_sem] theorem zDL:(bA []).all fh=true:=rfl
attribute [go_sem] List.take_length List.set_nil
@[go_sem] theorem zII {H:bR}{te:TI}{id:Id}{es s len:Nat}:nN H te (.arr id es s len)=@obK _ _ (H id) ⟨fun o=>some (len,(o.cells.drop s).take (len*te.size),es=te.size∧s+len*te.size≤o.cells.length)⟩:=by grind[nN,obK,ob]
@[go_sem] theorem zHV {α:Type}{xs ys:List α}:(xs++ys).isEmpty=(xs.isEmpty&&ys.isEmpty):=by cases xs<;>simp
attribute [go_sem] List.isEmpty_cons List.isEmpty_nil List.length_append List.map_append List.length_singleton
section
variable {n n':Nat} {pre:Id→Id} {vn:Id→Bool} {z:Id→Option (List FD)} {H:bR}
@[go_sem] theorem zUR {i:Id}{l:List (Id×Option O)}:HrL n n' pre vn z H ((i,none)::l)=HrL n n' pre vn z H l:=rfl
attribute [go_sem] Nat.not_lt_zero
theorem DT:∀{ds ds':List D},ds'.length=ds.length→(∀j,j<ds'.length→Dr n n' pre vn z H (ds.getD j .junk) (ds'.getD j .junk))→Drs n n' pre vn z H ds ds'
 |ds,[],h,_=>by grind[Drs]
 |[],d'::ds',h,_=>ap
 |d::ds,d'::ds',h,hd=>by simp only[Drs];refine⟨d,ds,rfl,by simpa using hd 0 ak,DT ap fun j hj=>by simpa using hd (j+1) ap⟩
end
end Go.Abs
