/- a framework of my own: an abstract walk over the machine, part 2; no conditions -/
import Derived.Test.YtmconmiemdinkaaGreatDoorA1
set_option linter.unusedSimpArgs false
namespace Go.Abs
open Go
def W (P:Program)(G:Nat→List FD)(N:Nat)(c:Code)(Q:Exit→St→Prop)(st:St):Prop:=
 ∀(a:Act) (w:World) (L:Loc) (F:Nat→Nat→Prop),Rel G N st a w L F→c.wp P (fun e a' w'=>Sat G N st w L F (Q e) a' w') a w
section
variable {P:Program} {G:Nat→List FD} {N tag0:Nat} {st:St} {a:Act} {w:World} {L:Loc} {F:Nat→Nat→Prop} {K:St→Prop} {Q:Exit→St→Prop}
theorem Sat.mono {st0:St}{w0 L0 F0}{K K':St→Prop}{a w}(h:Sat G N st0 w0 L0 F0 K a w)(hk:∀st,K st→K' st):Sat G N st0 w0 L0 F0 K' a w:=by
 obtain⟨st,L,F,h1,h2,h3⟩:=h
 exact⟨st,L,F,hk _ h1,h2,h3⟩
theorem Sat.trans {st0 st1:St}{w0 L0 F0 w1 L1 F1}{a w}(hs:zfv st0 w0 L0 F0 st1 w1 L1 F1)(h:Sat G N st1 w1 L1 F1 K a w):Sat G N st0 w0 L0 F0 K a w:=by
 obtain⟨st,L,F,h1,h2,h3⟩:=h
 exact⟨st,L,F,h1,h2,zbs.trans hs h3⟩
theorem ztK {ops:Array Oper}{o:Oper}{j:Nat}{want:Bool}{t:Tmp}{x:Bool}(hg:o.guard=some (j,want))(ht:(ops[j]?).bind (·.dst)=some t)(hx:st.fr t= .fz (.b x))(h:Rel G N st a w L F)(htN:t<N):
  Region.wanted o (yielded ops a.tmps)=(x==want):=by
 have h1:=h.fr t
 rw[hx]at h1
 have h2:=vb h1
 have hlt:t<a.tmps.size:=by rw[h.size];exact htN
 have h3:a.tmps[t]?=some (.bool x):=by
  rw[←h2];simp[Array.getD_eq_getD_getElem?,hlt]
 simp[Region.wanted,hg,yielded,ht,h3]
theorem zDG (h:Rel G N st a w L F){t:Tmp}{x:Bool}(hx:st.fr t= .fz (.b x)):t<N:=by
 rcases Nat.lt_or_ge t N with h'|h'
 ·exact h'
 ·have h1:=h.fr t
  rw[hx]at h1
  have h2:=vb h1
  rw[Array.getD_eq_getD_getElem?,Array.getElem?_eq_none (by rw[h.size];exact h')]at h2
  simp[undef]at h2
theorem zv7 {c:Code}{Q':Exit→St→Prop}(h:W P G N c Q st)(hq:∀e st,Q e st→Q' e st):W P G N c Q' st:=
 fun a w L F hr=>wp_mono (h a w L F hr) fun e _ _ hs=>hs.mono (hq e)
theorem zv8 (h:Q .normal st):W P G N .skip Q st:=fun _ _ L F hr=>wp_skip ⟨st,L,F,h,hr,zbs.refl _ _ _ _ _⟩
theorem zv5 {id:Nat}(h:Q (.exit id) st):W P G N (.exit id) Q st:=fun _ _ L F hr=>wp_exit ⟨st,L,F,h,hr,zbs.refl _ _ _ _ _⟩
theorem zzJ (h:Q .ret st):W P G N .ret Q st:=fun _ _ L F hr=>wp_ret ⟨st,L,F,h,hr,zbs.refl _ _ _ _ _⟩
def zI8 (P:Program)(G:Nat→List FD)(N:Nat)(b:Code)(Q:Exit→St→Prop):Exit→St→Prop
 | .normal,st=>W P G N b Q st
 |e,st=>Q e st
theorem zzK {c b:Code}(h:W P G N c (zI8 P G N b Q) st):W P G N (.seq c b) Q st:=by
 intro a w L F hr
 refine wp_seq (wp_mono (h a w L F hr) fun e a1 w1 hs=>?_)
 cases e with
 |normal=>
  obtain⟨st1,L1,F1,h1,h2,h3⟩:=hs
  exact wp_mono (h1 a1 w1 L1 F1 h2) fun e _ _ hs=>hs.trans h3
 |_=>exact hs
theorem zv4 {c:Operand}{x y:Code}{t:Bool}(hc:st.ev G c= .fz (.b t))(h1:t=true→W P G N x Q st)(h2:t=false→W P G N y Q st):W P G N (.cond c x y) Q st:=by
 intro a w L F hr
 have:=hr.ev c
 rw[hc]at this
 exact wp_cond_split (vb this) (fun h=>h1 h a w L F hr) (fun h=>h2 h a w L F hr)
def zhA (id:Nat)(Q:Exit→St→Prop):Exit→St→Prop
 | .exit i,st=>if i=id then Q .normal st else Q (.exit i) st
 |e,st=>Q e st
theorem zrn {id:Nat}{c:Code}(h:W P G N c (zhA id Q) st):W P G N (.block id c) Q st:=by
 intro a w L F hr
 refine wp_block (wp_mono (h a w L F hr) fun e a1 w1 hs=>?_)
 cases e with
 |exit i=>
  by_cases e:i=id
  ·simp only[Exit.inBlock,if_pos e];exact hs.mono fun st h=>by simpa[zhA,e]using h
  ·simp only[Exit.inBlock,if_neg e];exact hs.mono fun st h=>by simpa[zhA,e]using h
 |_=>exact hs
def zeh (G:Nat→List FD)(N:Nat)(st st':St):Prop:=
 ∀a w L F,Rel G N st a w L F→∃L' F',Rel G N st' a w L' F'∧zfv st w L F st' w L' F'
theorem zeh.refl (st:St):zeh G N st st:=fun _ _ L F h=>⟨L,F,h,zbs.refl _ _ _ _ _⟩
theorem zeh.trans {s1 s2 s3:St}(h1:zeh G N s1 s2)(h2:zeh G N s2 s3):zeh G N s1 s3:=fun a w L F h=>
 let⟨_,_,h3,h4⟩:=h1 a w L F h
 let⟨L2,F2,h5,h6⟩:=h2 a w _ _ h3
 ⟨L2,F2,h5,zbs.trans h4 h6⟩
theorem zzL {c:Code}{st':St}(hw:zeh G N st st')(h:W P G N c Q st'):W P G N c Q st:=by
 intro a w L F hr
 obtain⟨L1,F1,h1,h2⟩:=hw a w L F hr
 exact wp_mono (h a w L1 F1 h1) fun e _ _ hs=>hs.trans h2
def zBe (G:Nat→List FD)(N:Nat){ι:Type}(I:ι→St)(μ:ι→Nat)(i:ι)(Q:Exit→St→Prop):Exit→St→Prop
 | .normal,st=>∃i',μ i'<μ i∧zeh G N st (I i')
 |e,st=>Q e st
theorem zv6 {c:Code}{ι:Type}(I:ι→St)(μ:ι→Nat)(i:ι)(h0:zeh G N st (I i))(round:∀i,W P G N c (zBe G N I μ i Q) (I i)):W P G N (.loop c) Q st:=by
 refine zzL h0 ?_
 clear h0
 intro a w L F hr b k cs
 have key:∀n i a w L F,μ i=n→Rel G N (I i) a w L F→
   ∃e a' w',Sat G N (I i) w L F (Q e) a' w'∧Arrives P (lone (b.at a (.code c:: .inLoop c::k)) cs w) b k cs e a' w':=by
  intro n
  induction n using Nat.strongRecOn with
  |_ n ih=>
   intro i a w L F hn hI
   obtain⟨e,a₁,w₁,hq,harr⟩:=round i a w L F hI b (.inLoop c::k) cs
   cases e with
   |normal=>
    obtain⟨st1,L1,F1,⟨i',hlt,hw⟩,h2,h3⟩:=hq
    obtain⟨L2,F2,h4,h5⟩:=hw _ _ _ _ h2
    obtain⟨e₂,a₂,w₂,hq₂,harr₂⟩:=ih (μ i') (hn▸hlt) i' a₁ w₁ L2 F2 rfl h4
    exact⟨e₂,a₂,w₂,(hq₂.trans h5).trans h3,.of_steps (Steps.trans harr (.one step_inLoop)) harr₂⟩
   |exit id=>exact⟨_,a₁,w₁,hq,.pass (x:= .inLoop c) rfl (fun _ _=> .inl (by simp)) harr⟩
   |goto l=>exact⟨_,a₁,w₁,hq,.pass (x:= .inLoop c) rfl (fun _ _=> .inl (by simp)) harr⟩
   |ret=>exact⟨_,a₁,w₁,hq,.pass (x:= .inLoop c) rfl (fun _ _=> .inl (by simp)) harr⟩
   |panic ch=>exact⟨_,a₁,w₁,hq,.pass (x:= .inLoop c) rfl (fun _ _=> .inl (by simp)) harr⟩
   |outgrown=>exact⟨_,a₁,w₁,hq,.pass (x:= .inLoop c) rfl (fun _ _=> .inl (by simp)) harr⟩
 obtain⟨e,a',w',hq,harr⟩:=key _ i a w L F rfl hr
 exact⟨e,a',w',hq,.of_steps (.one step_loop) harr⟩
def zkF (P:Program)(st:St):ResultVar→Option (D×Prop)
 | .tmp t=>some (st.fr t,True)
 | .cell t ty=>zev P st.H ty (st.fr t)
def zd0 (P:Program)(st:St):List ResultVar→Option (List D×Prop)
 |[]=>some ([],True)
 |r::rs=>
  match zkF P st r,zd0 P st rs with
  |some (d,c),some (ds,cs)=>some (d::ds,c∧cs)
  |_,_=>none
def one (ds:List D):D:=
 match ds with
 |[d]=>d
 |ds=> .tup ds
def zBv (tmps:Array Value):ResultVar→Sem Value
 | .tmp t=>pure (tmps.getD t undef)
 | .cell x t=>do loadVar t (←asAddr (tmps.getD x undef))
theorem zqJ (fn:Func)(tmps:Array Value):results fn tmps=(do let vs ←fn.results.mapM (zBv tmps);pure (if h:vs.size=1 then vs[0]else .tuple vs)):=by
 unfold results
 congr 1
theorem zvw (h:Rel G N st a w L F){r:ResultVar}{d c}(hr:zkF P st r=some (d,c))(hc:c):
  ∃v,(zBv a.tmps r).run P w= .ok v w∧zag w L F (Ub st.n) d v:=by
 cases r with
 |tmp t=>
  simp only[zkF,Option.some.injEq,Prod.mk.injEq]at hr
  obtain⟨rfl,_⟩:=hr
  exact⟨_,rfl,h.fr t⟩
 |cell t ty=>
  simp only[zkF]at hr
  obtain⟨v,h1,h2⟩:=zlL hr hc h.ok (h.fr t)
  refine⟨v,?_,h2⟩
  have hp:∃p,a.tmps.getD t undef= .pointer (some p):=by
   have h3:=h.fr t
   unfold zev at hr
   split at hr
   ·cases hr
   ·split at hr
    ·rename_i hx;rw[hx]at h3;simp only[zag]at h3;obtain⟨b,off,e,_⟩:=h3;exact⟨_,e⟩
    ·rename_i hx;rw[hx]at h3;simp only[zag]at h3;obtain⟨_,_,e⟩:=h3;exact⟨_,e⟩
    ·cases hr
  obtain⟨p,hp⟩:=hp
  rw[hp]at h1
  simp only[zBv]
  rw[hp]
  simpa[Instr.loadAt,Instr.sureAddr,asAddr]using h1
theorem zo0 (h:Rel G N st a w L F):∀{rs:List ResultVar} {ds c},zd0 P st rs=some (ds,c)→c→
  ∃vs:List Value,(rs.mapM (zBv a.tmps)).run P w= .ok vs w∧zah w L F (Ub st.n) ds vs
 |[],ds,c,hr,_=>by
  simp only[zd0,Option.some.injEq,Prod.mk.injEq]at hr
  obtain⟨rfl,_⟩:=hr
  exact⟨[],by simp,by simp[zah]⟩
 |r::rs,ds,c,hr,hc=>by
  simp only[zd0]at hr
  split at hr
  ·rename_i d c1 ds1 c2 h1 h2
   simp only[Option.some.injEq,Prod.mk.injEq]at hr
   obtain⟨rfl,rfl⟩:=hr
   obtain⟨v,g1,g2⟩:=zvw h h1 hc.1
   obtain⟨vs,g3,g4⟩:=zo0 h h2 hc.2
   exact⟨v::vs,by rw[List.mapM_cons,Sem.run_bind,g1];simp[g3],by simp only[zah];exact⟨g2,g4⟩⟩
  ·cases hr
theorem zqK (h:Rel G N st a w L F){fn:Func}{ds c}(hr:zd0 P st fn.results.toList=some (ds,c))(hc:c):
  ∃v,(results fn a.tmps).run P w= .ok v w∧zag w L F (Ub st.n) (one ds) v:=by
 obtain⟨vs,h1,h2⟩:=zo0 h hr hc
 have hm:(fn.results.mapM (zBv a.tmps)).run P w= .ok vs.toArray w:=by
  rw[←Array.toArray_toList (xs:=fn.results),List.mapM_toArray,Sem.run_map,h1]
  rfl
 rw[zqJ,Sem.run_bind,hm]
 simp only[Result.andThen_ok,Sem.run_pure]
 by_cases hs:vs.toArray.size=1
 ·rw[dif_pos hs]
  refine⟨_,rfl,?_⟩
  match vs,ds,hs,h2 with
  |[v],[d],_,h2=>simpa[one,zah]using h2
 ·rw[dif_neg hs]
  refine⟨_,rfl,?_⟩
  have:one ds= .tup ds:=by
   have hl:=((zah.iff _ _).1 h2).1
   match ds with
   |[]=>rfl
   |[d]=>simp at hs;simp at hl;omega
   |_::_::_=>rfl
  rw[this]
  simp only[zag]
  exact⟨vs,rfl,h2⟩
def zDm (P:Program)(fn:Func)(Q:D→zaw→Nat→Prop):Exit→St→Prop
 | .normal,st| .ret,st=>
  match zd0 P st fn.results.toList with
  |some (ds,c)=>c∧Q (one ds) st.H st.n
  |none=>False
 |_,_=>False
def zjM (args:List D):Nat→D:=fun t=>args.getD t .junk
theorem zhs {f:FuncId}{fn:Func}{c:Code}{args:List D}{H:zaw}{n:Nat}{Q:D→zaw→Nat→Prop}(hcall:zal P f)(hf:P.funcs[f]?=some fn)(hb:fn.body=some c){N:Nat}(hN:fn.ntmps=N)(hl:args.length≤N)
  (h:W P G N c (zDm P fn Q) ⟨zjM args,H,n⟩):zaH P G f args H n Q:=by
 refine⟨hcall,fun w L F vs hok hvs=>?_⟩
 refine calls_of_wp hf hb ?_
 have hvl:=((zah.iff _ _).1 hvs)
 have hrel:Rel G N ⟨zjM args,H,n⟩ {tmps:=vs.toArray++Array.replicate (fn.ntmps-vs.toArray.size) undef,defers:=[]} w L F:=by
  refine⟨hok,by simp;omega,fun t=>?_,rfl⟩
  simp only[zjM]
  by_cases ht:t<args.length
  ·have:=hvl.2 t ht
   rw[Array.getD_eq_getD_getElem?,Array.getElem?_append_left (by simp;omega)]
   simpa[List.getD_eq_getElem?_getD]using this
  ·have:args.getD t .junk= .junk:=by rw[List.getD_eq_getElem?_getD,List.getElem?_eq_none (by omega)];rfl
   rw[this];simp[zag]
 refine wp_mono (h _ w L F hrel) fun e a' w' hs=>?_
 obtain⟨st',L',F',hq,hr,hst⟩:=hs
 have key:∀(hq:(match zd0 P st' fn.results.toList with
  |some (ds,c)=>c∧Q (one ds) st'.H st'.n
  |none=>False)),a'.defers=[]∧∃v,(results fn a'.tmps).run P w'= .ok v w'∧∃v0 d H' n' L' F',Ending.returned v= .returned v0∧Q d H' n'∧OkW G w' L' F' (Ub n') H'∧zag w' L' F' (Ub n') d v0∧zbs H w L F (Ub n) H' w' L' F' (Ub n'):=by
  intro hq
  split at hq
  ·rename_i ds c' hds
   obtain⟨v,g1,g2⟩:=zqK hr hds hq.1
   exact⟨hr.nd,v,g1,v,one ds,st'.H,st'.n,L',F',rfl,hq.2,hr.ok,g2,hst⟩
  ·exact hq.elim
 cases e with
 |normal=>exact key hq
 |ret=>exact key hq
 |_=>exact hq.elim
end
end Go.Abs
namespace Go.Abs
open Go
def D.val (d:D):Option D:=
 match d with
 | .tup ds=>(D.toFDs ds).map fun xs=> .tup (xs.map .fz)
 |d=>d.toFD.map .fz
def H0:zaw:=fun _=>none
section
variable {P:Program} {G:Nat→List FD} {N:Nat} {st:St} {w:World} {L L':Loc} {F:Nat→Nat→Prop} {U U':Id→Prop}
theorem zah.of_toFDs {ds:List D}{vs:List Value}{xs:List FD}(h:zah w L F U ds vs)(e:D.toFDs ds=some xs):zah w L' F U' (xs.map .fz) vs:=by
 obtain⟨h1,h2⟩:=zah.toFDs ds vs xs h e
 rw[zah.iff]
 refine⟨by simpa using h1,fun j hj=>?_⟩
 have hj':j<xs.length:=by simpa using hj
 rw[zb6 _ _ hj']
 simpa only[zag]using h2 j hj'
theorem zag.val {d r:D}{v:Value}(h:zag w L F U d v)(e:D.val d=some r):zag w L' F U' r v:=by
 unfold D.val at e
 split at e
 ·rename_i ds
  simp only[Option.map_eq_some_iff]at e
  obtain⟨xs,e,rfl⟩:=e
  simp only[zag]at h ⊢
  obtain⟨vs,rfl,h⟩:=h
  exact⟨vs,rfl,h.of_toFDs e⟩
 ·simp only[Option.map_eq_some_iff]at e
  obtain⟨x,e,rfl⟩:=e
  simpa only[zag]using zag.toFD _ _ _ h e
theorem ziS {f:FuncId}{args:List D}{xs:List FD}{r:D}{H:zaw}{n:Nat}(ha:D.toFDs args=some xs)
  (h:zaH P G f (xs.map .fz) H0 0 (fun d _ _=>D.val d=some r)):zaH P G f args H n (fun d H' n'=>d=r∧H'=H∧n'=n):=by
 refine⟨h.1,fun w L F vs hok hvs=>?_⟩
 refine(h.2 w L F vs ⟨hok.fb,(fun _ _ h=>nomatch h),(fun _ _ _ _ h=>nomatch h),hok.glob⟩ (hvs.of_toFDs ha)).mono fun e w' he=>?_
 obtain⟨v,d,H',n',L',F',rfl,hd,g1,g2,g3⟩:=he
 have nb:∀b,¬Blk H0 L b:=by rintro b ⟨_,_,h,_⟩;cases h
 have no:∀b k,¬Own H0 L b k:=by rintro b k ⟨_,_,h,_⟩;cases h
 have ext:Ext w L F (Ub n) w' L F' (Ub n):=⟨fun _ h=>h,fun _ _=>rfl,g3.f,fun b k hb=>g3.keepc b k (hok.fb b k hb) (no b k),g3.size,g3.shape⟩
 refine⟨v,r,H,n,L,F',rfl,⟨rfl,rfl,rfl⟩,⟨g1.fb,?_,hok.inj,g1.glob⟩,g2.val hd,?_⟩
 ·intro id o ho
  obtain⟨h1,h2⟩:=hok.live id o ho
  refine⟨h1,h2.ext ext h1 fun hv=>?_⟩
  have hlt:=hok.blk_lt ho hv
  refine⟨g3.keep _ hlt (nb _),fun k hk hF=>?_⟩
  rcases g3.fnew _ _ hF with h|h|h
  ·exact(zax h2 hv).1 k hk h
  ·omega
  ·exact no _ _ h
 ·refine⟨fun _ h=>h,fun _ _=>rfl,g3.f,g3.size,fun b hb _=>g3.keep b hb (nb b),fun b k hb _=>g3.keepc b k hb (no b k),g3.shape,fun b k hb=>?_,fun b k hb=> .inr hb,g3.os,g3.tape,g3.output,g3.drawn⟩
  rcases g3.fnew b k hb with h|h|h
  ·exact .inl h
  ·exact .inr (.inl h)
  ·exact absurd h (no b k)
theorem zaK {f:FuncId}{args:List D}{H:zaw}{n:Nat}{Q Q':D→zaw→Nat→Prop}(h:zaH P G f args H n Q)(hq:∀d H n,Q d H n→Q' d H n):zaH P G f args H n Q':=
 ⟨h.1,fun w L F vs hok hvs=>(h.2 w L F vs hok hvs).mono fun _ _ ⟨v,d,H',n',L',F',e,hQ,g⟩=>⟨v,d,H',n',L',F',e,hq _ _ _ hQ,g⟩⟩
abbrev Tbl:=FuncId→Option (List FD→Option (D×Prop))
def zai (P:Program)(G:Nat→List FD)(T:Tbl):Prop:=
 ∀f t xs r c,T f=some t→t xs=some (r,c)→c→zaH P G f (xs.map .fz) H0 0 (fun d _ _=>D.val d=some r)
def zoE (T:Tbl)(f:D)(args:List D):Option (D×Prop):=
 match f with
 | .fn g caps=>match T g,D.toFDs (args++caps)with
  |some t,some xs=>t xs
  |_,_=>none
 |_=>none
def zcc (P:Program)(t:TypeId)(n:Nat)(is:List Nat)(ds:List D):Option (D×Prop):=
 match zav P t,D.toFDs ds with
 |some te,some xs=>some (.full xs,is=List.range n∧zbB xs te.size∧n*te.size≤2^24∧n≤zbr)
 |_,_=>none
def zlT:D→Option (List FD)
 | .full xs=>some xs
 |_=>none
def zti (d:D):Option (List FD):=
 match d.toFD with
 |some (.sl ys)=>some ys
 |_=>none
def zeP (P:Program)(t u:TypeId)(x y:D):Option (D×Prop):=
 match zav P t,zaj P u,zlT x,zti y with
 |some te,some ui,some xs,some ys=>if ui.isSlice then some (.fz (.sl (xs++ys)),zbB xs te.size∧zbB ys te.size∧fits (xs.length+ys.length) te.bytes)else none
 |_,_,_,_=>none
def zbp (P:Program)(T:Tbl)(o:Oper)(ev:Operand→D)(H:zaw):Option (D×Prop):=
 match zbn P o ev H with
 |some r=>some r
 |none=>
  match o.op with
  | .buildSlice t n ps=>zcc P t n (ps.toList.map (·.1)) (ps.toList.map fun p=>ev p.2)
  | .call c=>
   match c.callee with
   | .value f=>zoE T (ev f) (c.args.toList.map ev)
   | .builtin .append=>
    match c.args.toList,c.argTypes.toList with
    |[x,y],[t,u]=>zeP P t u (ev x) (ev y)
    |_,_=>none
   |_=>none
  |_=>none
theorem zkM {H:zaw}{te:TI}{y:D}{ys:List FD}(h:zti y=some ys):∃src c,zbG H te y=some (ys.length,src,c):=by
 unfold zti at h
 split at h
 ·rename_i zs hz
  obtain rfl:=Option.some.inj h
  cases y<;>simp[D.toFD]at hz
  ·subst hz;exact⟨_,_,rfl⟩
  ·subst hz;exact⟨_,_,rfl⟩
  ·subst hz;exact⟨_,_,rfl⟩
 ·cases h
theorem zlN {T:Tbl}(hT:zai P G T){o:Oper}{tag0:Nat}{K:St→Prop}{d:D}{c:Prop}(hd:zbd N o.dst=true)(h:zbp P T o (st.ev G) st.H=some (d,c))(hc:c)(hK:K (st.put o.dst d)):
  zcW P G N tag0 o st K:=by
 unfold zbp at h
 unfold zcW
 split at h
 ·rename_i r hr
  rw[hr]
  obtain⟨d',c'⟩:=r
  simp only[Option.some.injEq,Prod.mk.injEq]at h
  obtain⟨rfl,rfl⟩:=h
  exact⟨hd,hc,hK⟩
 ·rename_i hn
  rw[hn]
  refine⟨hd,?_⟩
  split at h
  ·rename_i t n ps heq
   rw[heq]
   simp only[zcc]at h
   simp only
   split at h
   ·rename_i te xs h1 h2
    rw[h1,h2]
    simp only[Option.some.injEq,Prod.mk.injEq]at h
    obtain⟨rfl,rfl⟩:=h
    exact .inl ⟨hc.1,hc.2.1,hc.2.2.1,hc.2.2.2,hK⟩
   ·cases h
  ·rename_i cl heq
   rw[heq]
   simp only
   split at h
   ·rename_i f hcal
    rw[hcal]
    simp only
    unfold zoE at h
    split at h
    ·rename_i g caps hf
     rw[hf]
     simp only
     split at h
     ·rename_i t xs ht hxs
      refine zaK (ziS hxs (hT _ _ _ _ _ ht h hc)) ?_
      rintro d' H' n' ⟨rfl,rfl,rfl⟩
      exact hK
     ·cases h
    ·cases h
   ·rename_i hcal
    rw[hcal]
    simp only
    split at h
    ·rename_i x y t u ha ht
     rw[ha,ht]
     simp only
     unfold zeP at h
     split at h
     ·rename_i te ui xs ys h1 h2 h3 h4
      split at h
      ·rename_i hs
       simp only[Option.some.injEq,Prod.mk.injEq]at h
       obtain⟨rfl,rfl⟩:=h
       unfold zcI
       rw[h1,h2]
       simp only
       have hx:st.ev G x= .full xs:=by
        revert h3;cases st.ev G x<;>simp[zlT]
       obtain⟨src,cc,hsrc⟩:=zkM (H:=st.H) (te:=te) h4
       rw[hs,hsrc,hx]
       simp only
       refine .inr (.inl ⟨ys,?_,hc.1,hc.2.1,hc.2.2,hK⟩)
       unfold zti at h4
       split at h4
       ·rename_i zs hz;rw[hz];rw[Option.some.inj h4]
       ·cases h4
      ·cases h
     ·cases h
    ·cases h
   ·cases h
  ·cases h
end
end Go.Abs
namespace Go.Abs
open Go
def frL:List (Nat×D)→Nat→D
 |[],_=> .junk
 |(k,d)::l,t=>if t=k then d else frL l t
def Req (c k:Prop):Prop:=c∧k
def zdA (b:Bool)(x y:Prop):Prop:=(b=true→x)∧(b=false→y)
def Bi {α:Type}(r:Option α)(k:α→Prop):Prop:=match r with|some a=>k a|none=>False
def ob {α β:Type}(r:Option α)(k:α→Option β):Option β:=match r with|some a=>k a|none=>none
def Chk (b:Bool)(k:Prop):Prop:=b=true∧k
theorem zt6 {k:Prop}:Req True k=k:=by simp[Req]
theorem zt3 {k:Prop}:Chk true k=k:=by simp[Chk]
theorem zpp {x y:Prop}:zdA true x y=x:=by simp[zdA]
theorem zm3 {x y:Prop}:zdA false x y=y:=by simp[zdA]
theorem zkn {α β:Type}{a:α}{k:α→Option β}:ob (some a) k=k a:=rfl
theorem zj5 {k t:Nat}{d:D}{l:List (Nat×D)}:frL ((k,d)::l) t=if t=k then d else frL l t:=rfl
theorem zxs {t:Nat}:frL [] t= .junk:=rfl
theorem Req.i {c k:Prop}(h:c)(h':c→k):Req c k:=⟨h,h' h⟩
theorem zdA.i {b:Bool}{x y:Prop}(h:b=true→x)(h':b=false→y):zdA b x y:=⟨h,h'⟩
theorem zvr {l:List (Nat×D)}{H:zaw}{n t:Nat}{d:D}:St.put ⟨frL l,H,n⟩ (some t) d=⟨frL ((t,d)::l),H,n⟩:=by
 simp only[St.put,St.mk.injEq,and_true]
 funext j
 simp only[upd,frL]
theorem zvp {l:List (Nat×D)}{H:zaw}{n:Nat}{d:D}:St.put ⟨frL l,H,n⟩ none d=⟨frL l,H,n⟩:=rfl
theorem zBi {l:List (Nat×D)}{H:zaw}{n:Nat}{id:Id}{o:O}{dst:Option Tmp}{d:D}:St.new ⟨frL l,H,n⟩ id o dst d=
  {St.put ⟨frL l,H,n⟩ dst d with H:=zaI H id (some o),n:=n+1}:=rfl
theorem zJb {fr:Nat→D}{H:zaw}{n:Nat}:St.H ⟨fr,H,n⟩=H:=rfl
theorem zJc {fr:Nat→D}{H:zaw}{n:Nat}:St.n ⟨fr,H,n⟩=n:=rfl
theorem zFg {fr:Nat→D}{H:zaw}{n:Nat}:St.fr ⟨fr,H,n⟩=fr:=rfl
theorem zAd {G:Nat→List FD}{fr:Nat→D}{H:zaw}{n t:Nat}:St.ev G ⟨fr,H,n⟩ (.tmp t)=fr t:=rfl
theorem zuL {G:Nat→List FD}{st:St}{v:Value}:St.ev G st (.const v)=zfE v:=rfl
theorem zxe {G:Nat→List FD}{st:St}{f:FuncId}:St.ev G st (.func f)= .fn f []:=rfl
theorem znk {b:Bool}:zfE (.bool b)= .fz (.b b):=rfl
theorem zpI {k:IntKind}{n:Int}:zfE (.int k n)=if zB8 k n then .fz (.i k n)else .junk:=rfl
theorem zjT {s:ByteArray}:zfE (.string s)=if s.data.toList.length≤1000000 then .fz (.s s.data.toList)else .junk:=rfl
theorem zpJ:zfE (.slice none 0 0)= .full []:=rfl
theorem znl:zfE .nilFunc= .fz .nilf:=rfl
theorem zvU {H:zaw}{i j:Id}{o:Option O}:zaI H i o j=if j=i then o else H j:=rfl
theorem ztF {H:zaw}{i:Id}{o o':Option O}:zaI (zaI H i o) i o'=zaI H i o':=by
 funext j;simp only[zaI];split<;>rfl
theorem zpT {N t:Nat}:zbd N (some t)=decide (t<N):=rfl
theorem zpS {N:Nat}:zbd N none=true:=rfl
section
variable {P:Program} {H:zaw} {t u:TypeId} {x y i:D}
def zzq (ti:TI)(H:zaw):D→Option (D×Prop)
 | .rp xs=>some (if ti.agg then .fz (.agg (xs.take ti.size))else .fz (xs.getD 0 .nilf),ti.size≤xs.length∧(ti.agg=false→ti.size=1))
 | .ptr id k=>ob (H id) fun o=>some (if ti.agg then .agg ((o.cells.drop k).take ti.size)else o.cells.getD k .junk,
     k+ti.size≤o.cells.length∧o.virt=false∧(ti.agg=false→ti.size=1))
 |_=>none
theorem zhQ:zev P H t x=ob (zaj P t) fun ti=>zzq ti H x:=by
 unfold zev ob
 cases zaj P t with
 |none=>rfl
 |some ti=>
  cases x<;>try rfl
  rename_i id k
  simp only[zzq,ob]
  cases H id<;>rfl
def faD (off size:Nat):D→Option (D×Prop)
 | .ptr id k=>some (.ptr id (k+off),size≠0)
 | .rp xs=>some (.rp (xs.drop off),size≠0)
 |_=>none
def fieldsOf:Und→Nat→Option (Nat×TypeId)
 | .struct fs,i=>fs[i]?
 |_,_=>none
theorem ziH {i:Nat}:zbO P t x i=ob (zaj P t) fun ti=>ob (fieldsOf ti.und i) fun f=>ob (zaj P f.2) fun fi=>faD f.1 fi.size x:=by
 unfold zbO ob
 cases zaj P t with
 |none=>rfl
 |some ti=>
  obtain⟨_,_,_,und,_,_,_⟩:=ti
  cases und<;>try rfl
  rename_i fs
  simp only[fieldsOf]
  cases fs[i]? with
  |none=>rfl
  |some f=>
   obtain⟨off,ft⟩:=f
   simp only
   cases zaj P ft with
   |none=>rfl
   |some fi=>cases x<;>rfl
def fD (off size:Nat)(agg:Bool):D→Option (D×Prop)
 | .agg ds=>some (if agg then .agg ((ds.drop off).take size)else ds.getD off .junk,off+size≤ds.length∧(agg=false→size=1))
 | .fz (.agg ds)=>some (if agg then .fz (.agg ((ds.drop off).take size))else .fz (ds.getD off .nilf),off+size≤ds.length∧(agg=false→size=1))
 |_=>none
theorem zp3 {i:Nat}:zes P t x i=ob (zaj P t) fun ti=>ob (fieldsOf ti.und i) fun f=>ob (zaj P f.2) fun fi=>fD f.1 fi.size fi.agg x:=by
 unfold zes ob
 cases zaj P t with
 |none=>rfl
 |some ti=>
  obtain⟨_,_,_,und,_,_,_⟩:=ti
  cases und<;>try rfl
  rename_i fs
  simp only[fieldsOf]
  cases fs[i]? with
  |none=>rfl
  |some f=>
   obtain⟨off,ft⟩:=f
   simp only
   cases zaj P ft with
   |none=>rfl
   |some fi=>
    cases x<;>try rfl
    rename_i z
    cases z<;>rfl
def zr3:Und→Option TypeId
 | .slice e=>some e
 |_=>none
theorem zr4:zav P t=ob (zaj P t) fun ti=>ob (zr3 ti.und) fun e=>zaj P e:=by
 unfold zav ob
 cases zaj P t with
 |none=>rfl
 |some ti=>
  obtain⟨_,_,_,und,_,_,_⟩:=ti
  cases und<;>rfl
def iaD (size:Nat)(x y:D):Option (D×Prop):=
 match x,y with
 | .fz (.sl xs),.fz (.i _ n)=>some (.rp (xs.getD n.toNat .nilf).cells,0≤n∧n<xs.length∧(xs.getD n.toNat .nilf).cells.length=size)
 | .full xs,.fz (.i _ n)=>some (.rp (xs.getD n.toNat .nilf).cells,0≤n∧n<xs.length∧(xs.getD n.toNat .nilf).cells.length=size)
 | .ow _ _ xs,.fz (.i _ n)=>some (.rp (xs.getD n.toNat .nilf).cells,0≤n∧n<xs.length∧(xs.getD n.toNat .nilf).cells.length=size)
 | .arr id es s len,.fz (.i _ n)=>some (.ptr id (s+n.toNat*es),0≤n∧n<len∧es=size)
 |_,_=>none
theorem ziJ:zbP P t x y=ob (zav P t) fun te=>iaD te.size x y:=by
 unfold zbP ob
 cases zav P t with
 |none=>rfl
 |some te=>
  have key:∀z:FD,(∀k n,z≠ .i k n)→iaD te.size x (.fz z)=none:=by
   intro z hz
   cases z<;>first|exact absurd rfl (hz _ _)|(cases x<;>(try rfl)<;>rename_i q<;>cases q<;>rfl)
  cases y with
  |fz z=>
   cases z with
   |i k n=>cases x<;>(try rfl)<;>rename_i q<;>cases q<;>rfl
   |_=>exact(key _ (by simp)).symm
  |_=>cases x<;>(try rfl)<;>rename_i q<;>cases q<;>rfl
def zxT (str slice:Bool):D→Option (D×Prop)
 | .fz (.s l)=>if str then some (.fz (.i .i64 l.length),True)else none
 | .fz (.sl xs)=>if slice then some (.fz (.i .i64 xs.length),True)else none
 | .full xs=>if slice then some (.fz (.i .i64 xs.length),True)else none
 | .ow _ _ xs=>if slice then some (.fz (.i .i64 xs.length),True)else none
 | .arr _ _ _ len=>if slice then some (.fz (.i .i64 len),True)else none
 |_=>none
theorem zuH:zlK P t x=ob (zaj P t) fun ti=>zxT ti.isStr ti.isSlice x:=by
 unfold zlK ob
 cases zaj P t with
 |none=>cases x<;>(try rfl)<;>rename_i z<;>cases z<;>rfl
 |some ti=>cases x<;>(try rfl)<;>rename_i z<;>cases z<;>rfl
theorem zp6 {l:List UInt8}{k:IntKind}{n:Int}:zeu P t (.fz (.s l)) (.fz (.i k n))=ob (zaj P t) fun ti=>if ti.isStr then some (.fz (.i .u8 ((l.getD n.toNat 0).toNat:Int)),0≤n∧n<l.length)else none:=by
 unfold zeu ob;cases zaj P t<;>rfl
theorem zeq {te:TI}(h:zav P t=some te):∃ti,zaj P t=some ti:=by
 unfold zav at h
 cases ht:zaj P t with
 |none=>rw[ht]at h;cases h
 |some ti=>exact⟨ti,rfl⟩
theorem znu {l:List UInt8}{lo hi:Option D}:zaT P t (.fz (.s l)) lo hi none=ob (zaj P t) fun ti=>ob (zbL lo) fun a=>ob (za6 l.length hi) fun b=>
  if ti.isStr then some (.fz (.s ((l.take b.toNat).drop a.toNat)),0≤a∧a≤b∧b≤l.length)else none:=by
 unfold zaT ob
 cases zaj P t with
 |none=>rfl
 |some ti=>
  simp only
  cases zbL lo<;>cases za6 l.length hi<;>simp
theorem zqa {xs:List FD}{lo hi:Option D}:zaT P t (.fz (.sl xs)) lo hi none=ob (zav P t) fun te=>ob (zbL lo) fun a=>ob (za6 xs.length hi) fun b=>
  some (.fz (.sl (zbS xs a b)),0≤a∧a≤b∧b≤xs.length∧(a=0∨a=b∨(xs.getD a.toNat .nilf).cells.length=te.size)):=by
 unfold zaT ob
 cases he:zav P t with
 |none=>cases zaj P t<;>rfl
 |some te=>
  obtain⟨ti,ht⟩:=zeq he
  rw[ht]
  simp only
  cases zbL lo<;>cases za6 xs.length hi<;>rfl
theorem znt {xs:List FD}{lo:Option D}{hi:D}{k:IntKind}{m:Int}:zaT P t (.fz (.sl xs)) lo (some hi) (some (.fz (.i k m)))=ob (zav P t) fun te=>ob (zbL lo) fun a=>ob (za6 xs.length (some hi)) fun b=>
  some (.full (zbS xs a b),0≤a∧a≤b∧b≤xs.length∧m=b∧(a=0∨a=b∨(xs.getD a.toNat .nilf).cells.length=te.size)):=by
 unfold zaT ob
 cases he:zav P t with
 |none=>cases zaj P t<;>rfl
 |some te=>
  obtain⟨ti,ht⟩:=zeq he
  rw[ht]
  simp only
  cases zbL lo<;>cases za6 xs.length (some hi)<;>rfl
theorem zp9 {oid:Id}{oes:Nat}{xs:List FD}{lo hi:Option D}:zaT P t (.ow oid oes xs) lo hi none=ob (zav P t) fun te=>ob (zbL lo) fun a=>ob (za6 xs.length hi) fun b=>
  some (.fz (.sl (zbS xs a b)),0≤a∧a≤b∧b≤xs.length∧(a=0∨a=b∨(xs.getD a.toNat .nilf).cells.length=te.size)):=by
 unfold zaT ob
 cases he:zav P t with
 |none=>cases zaj P t<;>rfl
 |some te=>
  obtain⟨ti,ht⟩:=zeq he
  rw[ht]
  simp only
  cases zbL lo<;>cases za6 xs.length hi<;>rfl
theorem zns {oid:Id}{oes:Nat}{xs:List FD}{lo:Option D}{hi:D}{k:IntKind}{m:Int}:zaT P t (.ow oid oes xs) lo (some hi) (some (.fz (.i k m)))=ob (zav P t) fun te=>ob (zbL lo) fun a=>ob (za6 xs.length (some hi)) fun b=>
  some (.full (zbS xs a b),0≤a∧a≤b∧b≤xs.length∧m=b∧(a=0∨a=b∨(xs.getD a.toNat .nilf).cells.length=te.size)):=by
 unfold zaT ob
 cases he:zav P t with
 |none=>cases zaj P t<;>rfl
 |some te=>
  obtain⟨ti,ht⟩:=zeq he
  rw[ht]
  simp only
  cases zbL lo<;>cases za6 xs.length (some hi)<;>rfl
theorem zlM {xs:List FD}{lo:Option D}:zaT P t (.full xs) lo none none=ob (zav P t) fun te=>ob (zbL lo) fun a=>
  some (.full (zbS xs a xs.length),0≤a∧a≤xs.length∧(a=0∨a=xs.length∨(xs.getD a.toNat .nilf).cells.length=te.size)):=by
 unfold zaT ob
 cases he:zav P t with
 |none=>cases zaj P t<;>rfl
 |some te=>
  obtain⟨ti,ht⟩:=zeq he
  rw[ht]
  simp only
  cases zbL lo<;>rfl
theorem zj2 {xs:List FD}{lo:Option D}{hi:D}:zaT P t (.full xs) lo (some hi) none=ob (zav P t) fun te=>ob (zbL lo) fun a=>ob (za6 xs.length (some hi)) fun b=>
  some (.fz (.sl (zbS xs a b)),0≤a∧a≤b∧b≤xs.length∧(a=0∨a=b∨(xs.getD a.toNat .nilf).cells.length=te.size)):=by
 unfold zaT ob
 cases he:zav P t with
 |none=>cases zaj P t<;>rfl
 |some te=>
  obtain⟨ti,ht⟩:=zeq he
  rw[ht]
  simp only
  cases zbL lo<;>cases za6 xs.length (some hi)<;>rfl
theorem zj1 {xs:List FD}{lo:Option D}{hi:D}{k:IntKind}{m:Int}:zaT P t (.full xs) lo (some hi) (some (.fz (.i k m)))=ob (zav P t) fun te=>ob (zbL lo) fun a=>ob (za6 xs.length (some hi)) fun b=>
  some (.full (zbS xs a b),0≤a∧a≤b∧b≤xs.length∧m=b∧(a=0∨a=b∨(xs.getD a.toNat .nilf).cells.length=te.size)):=by
 unfold zaT ob
 cases he:zav P t with
 |none=>cases zaj P t<;>rfl
 |some te=>
  obtain⟨ti,ht⟩:=zeq he
  rw[ht]
  simp only
  cases zbL lo<;>cases za6 xs.length (some hi)<;>rfl
theorem znr {id:Id}{es s len:Nat}{lo hi:Option D}:zaT P t (.arr id es s len) lo hi none=ob (zav P t) fun te=>ob (zbL lo) fun a=>ob (za6 len hi) fun b=>
  some (.arr id es (s+a.toNat*es) (b-a).toNat,0≤a∧a≤b∧b≤len∧es=te.size):=by
 unfold zaT ob
 cases he:zav P t with
 |none=>cases zaj P t<;>rfl
 |some te=>
  obtain⟨ti,ht⟩:=zeq he
  rw[ht]
  simp only
  cases zbL lo<;>cases za6 len hi<;>rfl
def zpF (op:BinOp)(r:Bool)(c:Prop):Option (D×Prop):=
 match op with
 | .eql=>some (.fz (.b r),c)
 | .neq=>some (.fz (.b (!r)),c)
 |_=>none
theorem zuA {op:BinOp}{k k':IntKind}{a b:Int}:zc6 P op t (.fz (.i k a)) (.fz (.i k' b))=zdi op k k' a b:=rfl
theorem zuC {op:BinOp}{a b:List UInt8}:zc6 P op t (.fz (.s a)) (.fz (.s b))=zgh op a b:=rfl
theorem zux {op:BinOp}{a b:Bool}:zc6 P op t (.fz (.b a)) (.fz (.b b))=ob (zaj P t) fun ti=>if ti.isBool then zpF op (a==b) True else none:=by
 unfold zc6 ob;cases zaj P t<;>rfl
theorem zcU {op:BinOp}{xs ys:List FD}:(match zaj P t with
   |some ti=>
    match zbf ti.fund xs ys with
    |some (r,c)=>if ti.eqok then
      match op with
      | .eql=>some (D.fz (.b r),c)
      | .neq=>some (.fz (.b (!r)),c)
      |_=>none
     else none
    |none=>none
   |none=>none)=ob (zaj P t) fun ti=>ob (zbf ti.fund xs ys) fun rc=>if ti.eqok then zpF op rc.1 rc.2 else none:=by
 unfold ob
 cases zaj P t with
 |none=>rfl
 |some ti=>simp only;cases zbf ti.fund xs ys<;>rfl
theorem zuz {op:BinOp}{xs ys:List FD}:zc6 P op t (.fz (.agg xs)) (.fz (.agg ys))=ob (zaj P t) fun ti=>ob (zbf ti.fund xs ys) fun rc=>if ti.eqok then zpF op rc.1 rc.2 else none:=by
 rw[←zcU];rfl
theorem zuw {op:BinOp}{ds:List D}{ys:List FD}:zc6 P op t (.agg ds) (.fz (.agg ys))=ob (D.toFDs ds) fun xs=>ob (zaj P t) fun ti=>ob (zbf ti.fund xs ys) fun rc=>if ti.eqok then zpF op rc.1 rc.2 else none:=by
 simp only[zc6,D.toFD]
 cases h:D.toFDs ds with
 |none=>rfl
 |some xs=>simp only[Option.map_some,zkn];exact zcU
theorem zuy {op:BinOp}{ds:List D}{xs:List FD}:zc6 P op t (.fz (.agg xs)) (.agg ds)=ob (D.toFDs ds) fun ys=>ob (zaj P t) fun ti=>ob (zbf ti.fund xs ys) fun rc=>if ti.eqok then zpF op rc.1 rc.2 else none:=by
 simp only[zc6,D.toFD]
 cases h:D.toFDs ds with
 |none=>rfl
 |some xs=>simp only[Option.map_some,zkn];exact zcU
theorem zuv {op:BinOp}{ds es:List D}:zc6 P op t (.agg ds) (.agg es)=ob (D.toFDs ds) fun xs=>ob (D.toFDs es) fun ys=>ob (zaj P t) fun ti=>ob (zbf ti.fund xs ys) fun rc=>if ti.eqok then zpF op rc.1 rc.2 else none:=by
 simp only[zc6,D.toFD]
 cases h:D.toFDs ds with
 |none=>rfl
 |some xs=>
  simp only[Option.map_some,zkn]
  cases h:D.toFDs es with
  |none=>rfl
  |some xs=>simp only[Option.map_some,zkn];exact zcU
theorem zuE {s:TypeId}{k:IntKind}{n:Int}:zdl P s t (.fz (.i k n))=ob (zaj P s) fun _=>ob (zaj P t) fun ti=>ob ti.intK fun k=>some (.fz (.i k n),inK k n):=by
 unfold zdl ob
 cases zaj P s with
 |none=>rfl
 |some si=>
  cases zaj P t with
  |none=>rfl
  |some ti=>simp only;cases ti.intK<;>rfl
theorem zuD {s:TypeId}{n:Int}:zdl P s t (.full [.i .u8 n])=ob (zaj P s) fun _=>ob (zaj P t) fun ti=>ob (zav P s) fun te=>ob te.intK fun k=>if k= .u8 then(if ti.isStr then some (.fz (.s [UInt8.ofNat n.toNat]),True)else none)else none:=by
 unfold zdl ob
 cases zaj P s with
 |none=>rfl
 |some si=>
  cases zaj P t with
  |none=>rfl
  |some ti=>
   simp only
   cases zav P s with
   |none=>rfl
   |some te=>
    simp only[Option.bind_some]
    cases te.intK with
    |none=>rfl
    |some k=>cases k<;>rfl
theorem zuF {s:TypeId}{l:List UInt8}:zdl P s t (.fz (.s l))=ob (zaj P s) fun si=>ob (zaj P t) fun ti=>if si.isStr&&ti.isStr then some (.fz (.s l),True)else none:=by
 unfold zdl ob
 cases zaj P s<;>cases zaj P t<;>rfl
def zho:Und→Option (List (Nat×TypeId))
 | .struct fs=>some fs
 |_=>none
theorem znp {fs:List (Nat×TypeId)}{cells:List D}{i:Nat}{d:D}{rest:List (Nat×D)}:zc8 P fs cells ((i,d)::rest)=
  ob fs[i]? fun f=>ob (zaj P f.2) fun fi=>ob (zc8 P fs (zdc cells f.1 d.cs) rest) fun r=>some (r.1,(d.cs.length=fi.size∧f.1+fi.size≤cells.length)∧r.2):=by
 simp only[zc8]
 unfold ob
 cases fs[i]? with
 |none=>rfl
 |some f=>
  obtain⟨off,ft⟩:=f
  simp only
  cases zaj P ft with
  |none=>rfl
  |some fi=>simp only;cases zc8 P fs (zdc cells off d.cs) rest<;>rfl
theorem zp5 {fs:List (Nat×TypeId)}{cells:List D}:zc8 P fs cells []=some (cells,True):=rfl
theorem zp1 {ps:List (Nat×D)}:zer P t ps=ob (zaj P t) fun ti=>ob (zho ti.und) fun fs=>if fs.all (fun p=>(zaj P p.2).isSome)then ob (zc8 P fs ti.zero ps) fun r=>some (.agg r.1,r.2)else none:=by
 unfold zer ob
 cases zaj P t with
 |none=>rfl
 |some ti=>
  obtain⟨_,_,z,und,_,_,_⟩:=ti
  cases und<;>try rfl
  rename_i fs
  simp only[zho]
  split
  ·cases zc8 P fs z ps<;>rfl
  ·rfl
end
end Go.Abs
namespace Go.Abs
open Go
def Vv (N:Nat)(r:Option (D×Prop))(st:St)(dst:Option Tmp)(K:St→Prop):Prop:=
 Bi r fun dc=>Chk (zbd N dst) (Req dc.2 (K (st.put dst dc.1)))
def zdm:Operand→Bool
 | .const (.slice none 0 0)=>true
 |_=>false
def zyF (P:Program)(N:Nat)(op:BinOp)(t:TypeId)(x:D)(st:St)(dst:Option Tmp)(K:St→Prop):Prop:=
 match zav P t,zd6 x,op with
 |some _,some len,.eql=>zbd N dst=true∧∀b,(b=true→len=0)→K (st.put dst (.fz (.b b)))
 |some _,some len,.neq=>zbd N dst=true∧∀b,(b=false→len=0)→K (st.put dst (.fz (.b b)))
 |_,_,_=>False
def zvn:D→Option (Id×Nat)
 | .ptr id k=>some (id,k)
 |_=>none
def zAi:D→Option (FuncId×List D)
 | .fn f caps=>some (f,caps)
 |_=>none
def znI:D→Option Int
 | .fz (.i _ n)=>some n
 |_=>none
def zzN (P:Program)(G:Nat→List FD)(t:TypeId)(a x:Operand)(st:St)(dst:Option Tmp)(K:St→Prop):Prop:=
 Bi (zaj P t) fun ti=>Bi (zvn (st.ev G a)) fun p=>Bi (st.H p.1) fun o=>
  Req (dst=none∧o.virt=false∧(st.ev G x).known=true∧(st.ev G x).cs.all zcf=true∧(st.ev G x).cs.length=ti.size∧p.2+ti.size≤o.cells.length)
   (K {st with H:=zaI st.H p.1 (some {o with cells:=zdc o.cells p.2 (st.ev G x).cs})})
def zzO (P:Program)(G:Nat→List FD)(N:Nat)(g:FuncId)(args:List D)(st:St)(dst:Option Tmp)(K:St→Prop):Option (List FD→Option (D×Prop))→Prop
 |some t=>Bi (D.toFDs args) fun xs=>Vv N (t xs) st dst K
 |none=>Chk (zbd N dst) (zaH P G g args st.H st.n fun d H n=>K (({st with H:=H,n:=n}:St).put dst d))
def zwU (te:TI)(s:Nat×List D×Prop)(tag:Nat)(st:St)(dst:Option Tmp)(K:St→Prop):D→Prop
 | .full xs=>Req (s.2.2∧zbB xs te.size∧0<te.size∧(0<s.1∨xs=[])∧fits (xs.length+s.1) te.bytes)
   (K (st.new (tag,st.n) ⟨zaf xs++s.2.1,false,(zaf xs++s.2.1).isEmpty⟩ dst (.arr (tag,st.n) te.size 0 (xs.length+s.1))))
 | .arr id es b len=>Bi (st.H id) fun o=>Req (s.2.2∧es=te.size∧b+len*te.size≤o.cells.length∧s.2.1.all zcf=true∧0<te.size∧fits (len+s.1) te.bytes)
   (K ({st with H:=zaI st.H id none}.new (tag,st.n) ⟨(o.cells.drop b).take (len*te.size)++s.2.1,false,o.virt&&((o.cells.drop b).take (len*te.size)++s.2.1).isEmpty⟩ dst (.arr (tag,st.n) te.size 0 (len+s.1))))
 |_=>False
def zvT:List D→Option (List FD)
 |[]=>some []
 | .fz x::ds=>match x with
  | .agg _=>none
  |x=>(zvT ds).map (x::·)
 |_::_=>none
theorem zmR:∀{ds:List D} {ys:List FD},zvT ds=some ys→ds=zaf ys∧zbB ys 1∧ds.length=ys.length
 |[],ys,h=>by
  simp only[zvT,Option.some.injEq]at h;subst h
  exact⟨rfl,fun x hx=>by simp at hx,rfl⟩
 | .fz x::ds,ys,h=>by
  cases x<;>simp only[zvT,Option.map_eq_some_iff,reduceCtorEq]at h<;>(obtain⟨zs,h,rfl⟩:=h)<;>(obtain⟨h1,h2,h3⟩:=zmR h)<;>
   exact⟨by rw[h1];rfl,fun y hy=>(List.mem_cons.1 hy).elim (fun e=>by rw[e];rfl) (h2 y),by simp[h3]⟩
 | .junk::_,_,h| .full _::_,_,h| .rp _::_,_,h| .ptr _ _::_,_,h| .arr _ _ _ _::_,_,h| .ow _ _ _::_,_,h| .fn _ _::_,_,h| .agg _::_,_,h| .tup _::_,_,h=>by simp[zvT]at h
def ztZ (H:zaw)(te:TI)(y:D):Option (List FD×Prop):=
 match y with
 | .arr id es s len=>ob (H id) fun o=>ob (zvT ((o.cells.drop s).take (len*te.size))) fun ys=>some (ys,te.size=1∧es=te.size∧s+len*te.size≤o.cells.length)
 |y=>ob (zti y) fun ys=>some (ys,zbB ys te.size)
theorem zmI {H:zaw}{te:TI}{y:D}{ys:List FD}{c:Prop}(h:ztZ H te y=some (ys,c))(hc:c):∃cc,zbG H te y=some (ys.length,zaf ys,cc)∧cc∧zbB ys te.size:=by
 unfold ztZ at h
 split at h
 ·rename_i id es s len
  unfold ob at h
  split at h
  case h_2=>cases h
  rename_i o ho
  dsimp only at h
  split at h
  case h_2=>cases h
  rename_i zs hz
  simp only[Option.some.injEq,Prod.mk.injEq]at h
  obtain⟨rfl,rfl⟩:=h
  obtain⟨h1,h2,h3⟩:=zmR hz
  obtain⟨c1,c2,c3⟩:=hc
  have hl:zs.length=len:=by
   rw[←h3,List.length_take,List.length_drop,c1];rw[c1]at c3;omega
  refine⟨es=te.size∧s+len*te.size≤o.cells.length,?_,⟨c2,c3⟩,by rw[c1];exact h2⟩
  simp only[zbG,ho]
  rw[h1,hl]
 ·unfold ob at h
  split at h
  case h_2=>cases h
  rename_i zs hz
  simp only[Option.some.injEq,Prod.mk.injEq]at h
  obtain⟨rfl,rfl⟩:=h
  unfold zti at hz
  split at hz
  case h_2=>cases hz
  rename_i ws hw
  obtain rfl:=Option.some.inj hz
  cases y<;>simp[D.toFD]at hw
  ·subst hw;exact⟨_,rfl,hc,hc⟩
  ·subst hw;exact⟨_,rfl,hc,hc⟩
  ·subst hw;exact⟨_,rfl,hc,hc⟩
def zzM (te:TI)(tag:Nat)(om:Bool)(st:St)(dst:Option Tmp)(K:St→Prop)(y:D):D→Prop
 | .ow id es xs=>Bi (ztZ st.H te y) fun yc=>Bi (st.H id) fun _=>Req (es=te.size∧zbB xs te.size∧yc.2∧(zaf yc.1).all zcf=true∧fits (xs.length+yc.1.length) te.bytes)
   (K ({st with H:=zaI st.H id none}.new (tag,st.n) tok dst (.ow (tag,st.n) te.size (xs++yc.1))))
 | .full xs=>zdA om (Bi (ztZ st.H te y) fun yc=>Req (zbB xs te.size∧yc.2∧fits (xs.length+yc.1.length) te.bytes) (K (st.new (tag,st.n) tok dst (.ow (tag,st.n) te.size (xs++yc.1)))))
   (Bi (zbG st.H te y) fun s=>zwU te s tag st dst K (.full xs))
 | .arr id es b len=>Bi (zbG st.H te y) fun s=>zwU te s tag st dst K (.arr id es b len)
 |_=>False
def zBR (P:Program)(G:Nat→List FD)(N tag:Nat)(am om:Bool)(args:List Operand)(ts:List TypeId)(st:St)(dst:Option Tmp)(K:St→Prop):Prop:=
 match args,ts with
 |[x,y],[t,u]=>
  if am then Bi (zav P t) fun te=>Bi (zaj P u) fun ui=>Chk (zbd N dst&&ui.isSlice) (zzM te tag om st dst K (st.ev G y) (st.ev G x))
  else Vv N (zeP P t u (st.ev G x) (st.ev G y)) st dst K
 |_,_=>False
def zrt (P:Program)(G:Nat→List FD)(T:Tbl)(N tag:Nat)(am om:Bool)(args:Array Operand)(ts:Array TypeId)(st:St)(dst:Option Tmp)(K:St→Prop):Callee→Prop
 | .value f=>Bi (zAi (st.ev G f)) fun gc=>zzO P G N gc.1 (args.toList.map (st.ev G)++gc.2) st dst K (T gc.1)
 | .builtin .append=>zBR P G N tag am om args.toList ts.toList st dst K
 | .builtin .len=>Vv N (zaY P .len ts (args.toList.map (st.ev G))) st dst K
 | .builtin .max=>Vv N (zaY P .max ts (args.toList.map (st.ev G))) st dst K
 | .builtin .min=>Vv N (zaY P .min ts (args.toList.map (st.ev G))) st dst K
 |_=>False
def zDq (P:Program)(N tag:Nat)(t:TypeId)(l c:D)(st:St)(dst:Option Tmp)(K:St→Prop):Prop:=
 Bi (zav P t) fun te=>Bi (znI l) fun n=>Bi (znI c) fun m=>Chk (zbd N dst) (Req (m=n∧0≤n∧n.toNat≤zbr∧te.bytes*n≤2^48)
  (K (st.new (tag,st.n) ⟨(List.range (n.toNat*te.size)).map fun j=>te.zero.getD (j % te.size) .junk,false,false⟩ dst (.arr (tag,st.n) te.size 0 n.toNat))))
def zk6 (P:Program)(G:Nat→List FD)(N tag:Nat)(t:TypeId)(n:Nat)(ps:List (Nat×Operand))(st:St)(dst:Option Tmp)(K:St→Prop):Prop:=
 Bi (zav P t) fun te=>Chk (zbd N dst&&ps.all fun p=>zvY te.size (st.ev G p.2)) (Req (ps.map (·.1)=List.range n∧n≤2^24∧n*te.size≤2^24)
  (K (st.new (tag,st.n) ⟨ps.flatMap fun p=>(st.ev G p.2).cs,false,false⟩ dst (.arr (tag,st.n) te.size 0 n))))
def XO (P:Program)(G:Nat→List FD)(T:Tbl)(N tag0:Nat)(am:Nat→Bool)(st:St)(K:St→Prop)(dst:Option Tmp):Op→Prop
 | .move x=>Chk (zbd N dst) (K (st.put dst (st.ev G x)))
 | .assign x=>Chk (zbd N dst) (K (st.put dst (st.ev G x)))
 | .pick c a b=>Vv N (zfI (st.ev G c) (st.ev G a) (st.ev G b)) st dst K
 | .build t ps=>Chk (ps.toList.all fun p=>(st.ev G p.2).known) (Vv N (zer P t (ps.toList.map fun p=>(p.1,st.ev G p.2))) st dst K)
 | .load t a=>Vv N (zev P st.H t (st.ev G a)) st dst K
 | .nilCheck x=>Vv N (znq (st.ev G x)) st dst K
 | .binOp op t x y _=>if zdm y then zyF P N op t (st.ev G x) st dst K else Vv N (zc6 P op t (st.ev G x) (st.ev G y)) st dst K
 | .unOp op _ x=>Vv N (zxc op (st.ev G x)) st dst K
 | .convert s t x=>Vv N (zdl P s t (st.ev G x)) st dst K
 | .makeFunc (.func f) first caps=>Chk (first.size==0&&zbd N dst) (K (st.put dst (.fn f (caps.toList.map (st.ev G)))))
 | .slice t x lo hi mx=>Vv N (zaT P t (st.ev G x) (lo.map (st.ev G)) (hi.map (st.ev G)) (mx.map (st.ev G))) st dst K
 | .fieldAddr t x i=>Vv N (zbO P t (st.ev G x) i) st dst K
 | .field t x i=>Vv N (zes P t (st.ev G x) i) st dst K
 | .indexAddr t x i=>Vv N (zbP P t (st.ev G x) (st.ev G i)) st dst K
 | .index t x i=>Vv N (zeu P t (st.ev G x) (st.ev G i)) st dst K
 | .extract x i=>Vv N (zc7 (st.ev G x) i) st dst K
 | .call c=>zrt P G T N (tag0+dst.getD 0) (am (dst.getD 0)) (am (2000000+dst.getD 0)) c.args c.argTypes st dst K c.callee
 | .alloc e=>Bi (zaj P e) fun ti=>Chk (zbd N dst) (K (st.new (tag0+dst.getD 0,st.n) ⟨ti.zero,true,false⟩ dst (.ptr (tag0+dst.getD 0,st.n) 0)))
 | .box _ x=>Chk (zbd N dst&&(st.ev G x).known) (K (st.new (tag0+dst.getD 0,st.n) ⟨(st.ev G x).cs,true,false⟩ dst (.ptr (tag0+dst.getD 0,st.n) 0)))
 | .makeSlice t l c=>zDq P N (tag0+dst.getD 0) t (st.ev G l) (st.ev G c) st dst K
 | .buildSlice t n ps=>if am (dst.getD 0)then zk6 P G N (tag0+dst.getD 0) t n ps.toList st dst K else Vv N (zcc P t n (ps.toList.map (·.1)) (ps.toList.map fun p=>st.ev G p.2)) st dst K
 | .store t a x=>zzN P G t a x st dst K
 |_=>False
section
variable {P:Program} {G:Nat→List FD} {T:Tbl} {N tag0:Nat} {am:Nat→Bool} {st:St} {K:St→Prop}
theorem zbY {α:Type}{r:Option α}{k:α→Prop}(h:Bi r k):∃a,r=some a∧k a:=by
 cases r with
 |none=>exact h.elim
 |some a=>exact⟨a,rfl,h⟩
theorem zDp (hT:zai P G T){o:Oper}{r:Option (D×Prop)}(hr:zbp P T o (st.ev G) st.H=r)(h:Vv N r st o.dst K):zcW P G N tag0 o st K:=by
 obtain⟨⟨d,c⟩,rfl,h1,h2,h3⟩:=zbY h
 exact zlN hT h1 hr h2 h3
theorem zxf {o:Oper}{r:Option (D×Prop)}(hr:zbn P o (st.ev G) st.H=r)(h:Vv N r st o.dst K):∃d c,zbn P o (st.ev G) st.H=some (d,c)∧zbd N o.dst=true∧c∧K (st.put o.dst d):=by
 obtain⟨⟨d,c⟩,rfl,h1,h2,h3⟩:=zbY h
 exact⟨d,c,hr,h1,h2,h3⟩
theorem zjD {o:Oper}{r:Option (D×Prop)}(hr:zbn P o (st.ev G) st.H=r)(h:Vv N r st o.dst K):zcW P G N tag0 o st K:=by
 obtain⟨d,c,h1,h2,h3,h4⟩:=zxf hr h
 unfold zcW
 rw[h1]
 exact⟨h2,h3,h4⟩
theorem zp0 {op:BinOp}{t:TypeId}{x:D}:zc6 P op t x (.full [])=none:=by
 cases x with
 |fz z=>cases z<;>rfl
 |full xs=>rfl
 |ow _ _ _=>rfl
 |agg ds=>
  unfold zc6
  simp only[D.toFD]
  cases D.toFDs ds<;>rfl
 |_=>rfl
theorem zod (hT:zai P G T):∀(o:Oper),XO P G T N tag0 am st K o.dst o.op→zcW P G N tag0 o st K:=by
 intro o h
 obtain⟨dst,op,ty,pos,after,guard⟩:=o
 cases op with
 |move x=>exact zjD (r:=some (_,True)) rfl ⟨h.1,trivial,h.2⟩
 |assign x=>exact zjD (r:=some (_,True)) rfl ⟨h.1,trivial,h.2⟩
 |pick c a b=>exact zjD rfl h
 |build t ps=>
  obtain⟨h1,h2⟩:=h
  refine zjD ?_ h2
  simp only[zbn]
  rw[if_pos h1]
 |load t a=>exact zjD rfl h
 |nilCheck x=>exact zjD rfl h
 |binOp op t x y yt=>
  simp only[XO]at h
  split at h
  ·rename_i hn
   have hy:y= .const (.slice none 0 0):=by
    unfold zdm at hn
    split at hn
    ·rfl
    ·cases hn
   subst hy
   unfold zcW
   have e:zbn P ⟨dst,.binOp op t x (.const (.slice none 0 0)) yt,ty,pos,after,guard⟩ (st.ev G) st.H=none:=zp0
   rw[e]
   unfold zyF at h
   simp only
   split at h
   ·rename_i h1 h2
    exact⟨h.1,by rw[h1,h2];exact h.2⟩
   ·rename_i h1 h2
    exact⟨h.1,by rw[h1,h2];exact h.2⟩
   ·exact h.elim
  ·exact zjD rfl h
 |unOp op t x=>exact zjD rfl h
 |convert s t x=>exact zjD rfl h
 |makeFunc f first caps=>
  cases f with
  |func f=>
   obtain⟨h1,h2⟩:=h
   simp only[Bool.and_eq_true,beq_iff_eq]at h1
   refine zjD (r:=some (_,True)) ?_ ⟨h1.2,trivial,h2⟩
   simp only[zbn]
   rw[if_pos h1.1]
  |_=>exact h.elim
 |slice t x lo hi mx=>exact zjD rfl h
 |fieldAddr t x i=>exact zjD rfl h
 |field t x i=>exact zjD rfl h
 |indexAddr t x i=>exact zjD rfl h
 |index t x i=>exact zjD rfl h
 |extract x i=>exact zjD rfl h
 |alloc e=>
  obtain⟨ti,h1,h2,h3⟩:=zbY h
  unfold zcW
  simp only[zbn]
  exact⟨h2,by rw[h1];exact h3⟩
 |box e x=>
  obtain⟨h1,h2⟩:=h
  simp only[Bool.and_eq_true]at h1
  unfold zcW
  simp only[zbn]
  exact⟨h1.1,h1.2,h2⟩
 |makeSlice t l c=>
  obtain⟨te,h1,h2⟩:=zbY h
  obtain⟨n,h3,h4⟩:=zbY h2
  obtain⟨m,h5,h6,h7,h8⟩:=zbY h4
  unfold zcW
  simp only[zbn]
  refine⟨h6,?_⟩
  have e1:∀(d:D) n,znI d=some n→∃k,d= .fz (.i k n):=by
   intro d n hd
   unfold znI at hd
   split at hd
   ·exact⟨_,by rw[Option.some.inj hd]⟩
   ·cases hd
  obtain⟨k1,e2⟩:=e1 _ _ h3
  obtain⟨k2,e3⟩:=e1 _ _ h5
  rw[h1,e2,e3]
  exact⟨h7.1,h7.2.1,h7.2.2.1,h7.2.2.2,h8⟩
 |buildSlice t n ps=>
  simp only[XO]at h
  split at h
  ·obtain⟨te,h1,h2,h3,h4⟩:=zbY h
   simp only[Bool.and_eq_true]at h2
   unfold zcW
   simp only[zbn]
   refine⟨h2.1,.inr ?_⟩
   rw[h1]
   exact⟨h3.1,h2.2,h3.2.1,h3.2.2,h4⟩
  ·exact zDp hT (o:=⟨dst,.buildSlice t n ps,ty,pos,after,guard⟩) rfl h
 |store t a x=>
  obtain⟨ti,h1,h2⟩:=zbY h
  obtain⟨⟨id,k⟩,h3,h4⟩:=zbY h2
  obtain⟨ob,h5,h6,h7⟩:=zbY h4
  unfold zcW
  simp only[zbn]
  have e:st.ev G a= .ptr id k:=by
   unfold zvn at h3
   split at h3
   ·rename_i hp;rw[hp];simp only[Option.some.injEq,Prod.mk.injEq]at h3;rw[h3.1,h3.2]
   ·cases h3
  have hd:dst=none:=h6.1
  subst hd
  refine⟨rfl,?_⟩
  rw[h1,e]
  simp only
  rw[h5]
  exact⟨trivial,h6.2.1,h6.2.2.1,h6.2.2.2.1,h6.2.2.2.2.1,h6.2.2.2.2.2,h7⟩
 |call c=>
  obtain⟨callee,args,ts⟩:=c
  simp only[XO]at h
  cases callee with
  |value f=>
   obtain⟨⟨g,caps⟩,h1,h2⟩:=zbY h
   have e:st.ev G f= .fn g caps:=by
    unfold zAi at h1
    split at h1
    ·rename_i hp;rw[hp];simp only[Option.some.injEq,Prod.mk.injEq]at h1;rw[h1.1,h1.2]
    ·cases h1
   simp only at h2
   cases ht:T g with
   |some t=>
    rw[ht]at h2
    obtain⟨xs,h3,h4⟩:=zbY h2
    refine zDp hT (o:=⟨dst,.call ⟨.value f,args,ts⟩,ty,pos,after,guard⟩) (r:=t xs) ?_ h4
    simp only[zbp,zbn,e,zoE,ht,h3]
   |none=>
    rw[ht]at h2
    unfold zcW
    simp only[zbn]
    refine⟨h2.1,?_⟩
    rw[e]
    exact h2.2
  |invoke _ _=>exact h.elim
  |builtin b=>
   cases b with
   |len=>exact zjD rfl h
   |max=>exact zjD rfl h
   |min=>exact zjD rfl h
   |append=>
    simp only[zrt]at h
    unfold zBR at h
    split at h
    case h_2=>exact h.elim
    rename_i x y t u ha ht
    split at h
    ·obtain⟨te,h1,h2⟩:=zbY h
     obtain⟨ui,h3,h4,h5⟩:=zbY h2
     simp only[Bool.and_eq_true]at h4
     unfold zcW
     have e:zbn P ⟨dst,.call ⟨.builtin .append,args,ts⟩,ty,pos,after,guard⟩ (st.ev G) st.H=none:=by
      simp only[zbn,zaY]
     rw[e]
     refine⟨h4.1,?_⟩
     simp only
     rw[ha,ht]
     simp only
     unfold zcI
     rw[h1,h3]
     simp only
     rw[h4.2]
     cases hx:st.ev G x with
     |ow id es xs=>
      rw[hx]at h5
      obtain⟨⟨ys,c⟩,h6,h7⟩:=zbY h5
      obtain⟨ob,h8,h9,h10⟩:=zbY h7
      obtain⟨cc,hsrc,hcc,hll⟩:=zmI h6 h9.2.2.1
      rw[hsrc]
      exact⟨ys,ob,rfl,rfl,hcc,h8,h9.1,h9.2.1,hll,h9.2.2.2.1,h9.2.2.2.2,h10⟩
     |full xs=>
      rw[hx]at h5
      cases hom:am (2000000+dst.getD 0)with
      |true=>
       obtain⟨⟨ys,c⟩,h6,h8,h9⟩:=zbY (h5.1 hom)
       obtain⟨cc,hsrc,hcc,hll⟩:=zmI h6 h8.2.1
       rw[hsrc]
       exact .inr (.inr ⟨ys,rfl,rfl,hcc,h8.1,hll,h8.2.2,h9⟩)
      |false=>
       obtain⟨⟨n,src,cc⟩,h6,h8,h9⟩:=zbY (h5.2 hom)
       rw[h6]
       simp only at h8 ⊢
       exact .inl ⟨h8.1,h8.2.1,h8.2.2.1,h8.2.2.2.1,h8.2.2.2.2,h9⟩
     |arr id es b len=>
      rw[hx]at h5
      obtain⟨⟨n,src,cc⟩,h6,h7⟩:=zbY h5
      obtain⟨ob,h8,h9,h10⟩:=zbY h7
      rw[h6]
      simp only at h9 ⊢
      rw[h8]
      exact⟨h9.1,h9.2.1,h9.2.2.1,h9.2.2.2.1,h9.2.2.2.2.1,h9.2.2.2.2.2,h10⟩
     |_=>rw[hx]at h5;exact h5.elim
    ·refine zDp hT (o:=⟨dst,.call ⟨.builtin .append,args,ts⟩,ty,pos,after,guard⟩) ?_ h
     simp only[zbp,zbn,zaY,ha,ht]
   |_=>exact h.elim
 |_=>exact h.elim
def gv2 (want:Bool):D→Option Bool
 | .fz (.b x)=>some (x==want)
 | .tup []=>some false
 |_=>none
def zmZ (ops:Array Oper)(fr:Nat→D):Option (Nat×Bool)→Option Bool
 |none=>some true
 |some jw=>ob ((ops[jw.1]?).bind (·.dst)) fun t=>gv2 jw.2 (fr t)
def zgb (P:Program)(G:Nat→List FD)(T:Tbl)(N tag0:Nat)(am:Nat→Bool)(ops:Array Oper):List Oper→(St→Prop)→St→Prop
 |[],K,st=>K st
 |o::os,K,st=>Bi (zmZ ops st.fr o.guard) fun b=>zdA b (XO P G T N tag0 am st (zgb P G T N tag0 am ops os K) o.dst o.op)
   (Chk (zbd N o.dst) (zgb P G T N tag0 am ops os K (st.put o.dst (.tup []))))
end
end Go.Abs
namespace Go.Abs
open Go
section
variable {P:Program} {G:Nat→List FD} {T:Tbl} {N tag0:Nat} {am:Nat→Bool} {st:St} {a:Act} {w:World} {L:Loc} {F:Nat→Nat→Prop} {K:St→Prop} {Q:Exit→St→Prop}
theorem zct {ops:Array Oper}{o:Oper}{b:Bool}(h:Rel G N st a w L F)(hb:zmZ ops st.fr o.guard=some b):Region.wanted o (yielded ops a.tmps)=b:=by
 cases hg:o.guard with
 |none=>
  rw[hg]at hb
  simp only[zmZ,Option.some.injEq]at hb
  subst hb
  simp[Region.wanted,hg]
 |some jw=>
  obtain⟨j,want⟩:=jw
  rw[hg]at hb
  simp only[zmZ]at hb
  cases ht:(ops[j]?).bind (·.dst)with
  |none=>rw[ht]at hb;cases hb
  |some t=>
   rw[ht]at hb
   simp only[ob]at hb
   unfold gv2 at hb
   split at hb
   ·rename_i x hx
    rw[ztK hg ht hx h (zDG h hx)]
    exact Option.some.inj hb
   ·rename_i hx
    have h1:=h.fr t
    rw[hx]at h1
    simp only[zag]at h1
    obtain⟨vs,h2,_⟩:=h1
    simp only[Region.wanted,hg,yielded,ht,Option.bind_some]
    rw[←Option.some.inj hb]
    rw[Array.getD_eq_getD_getElem?]at h2
    cases hq:a.tmps[t]? with
    |none=>simp
    |some v=>
     rw[hq]at h2
     simp only[Option.getD_some]at h2
     rw[h2]
     rfl
   ·cases hb
theorem zn1 (hT:zai P G T){ops:Array Oper}{Q':Exit→Act→World→Prop}:∀(l:List Oper) (k:Nat),(∀j,l[j]?=ops[k+j]?)→∀(st:St) (a:Act) (w:World) (L:Loc) (F:Nat→Nat→Prop),Rel G N st a w L F→zgb P G T N tag0 am ops l K st→
  (∀a' w',Sat G N st w L F K a' w'→Q' .normal a' w')→wpOps P ops Q' ((List.range l.length).map (k+·)) a w
 |[],k,_,st,a,w,L,F,h,hs,hQ=>by
  simp only[List.length_nil,List.range_zero,List.map_nil,wpOps]
  exact hQ _ _ ⟨st,L,F,hs,h,zbs.refl _ _ _ _ _⟩
 |o::l,k,hl,st,a,w,L,F,h,hs,hQ=>by
  have h0:ops[k]?=some o:=by have:=hl 0;simpa using this.symm
  have hrest:(List.range (o::l).length).map (k+·)=k::(List.range l.length).map (k+1+·):=by
   simp only[List.length_cons,List.range_succ_eq_map,List.map_cons,List.map_map,Nat.add_zero]
   congr 1
   apply List.map_congr_left
   intro j _
   simp;omega
  rw[hrest]
  simp only[wpOps,h0]
  have ih:∀(st1:St) (a1:Act) (w1:World) (L1:Loc) (F1:Nat→Nat→Prop),Rel G N st1 a1 w1 L1 F1→zfv st w L F st1 w1 L1 F1→zgb P G T N tag0 am ops l K st1→wpOps P ops Q' ((List.range l.length).map (k+1+·)) a1 w1:=
   fun st1 a1 w1 L1 F1 hr hst hs'=>zn1 hT l (k+1) (fun j=>by have:=hl (j+1);simp at this;rw[this];congr 1;omega) st1 a1 w1 L1 F1 hr hs' (fun a' w' hsat=>hQ _ _ (hsat.trans hst))
  obtain⟨b,hb,h1,h2⟩:=zbY hs
  rw[zct h hb]
  cases b with
  |true=>
   simp only[if_true]
   exact .inl (Oper.wp_mono (fun a1 w1 ⟨st1,L1,F1,h1,h2,h3⟩=>ih st1 a1 w1 L1 F1 h2 h3 h1) (zkS h (zod hT o (h1 rfl))))
  |false=>
   simp only[Bool.false_eq_true,if_false]
   obtain⟨hd,hs'⟩:=h2 rfl
   have hH:(st.put o.dst (.tup [])).H=st.H:=by cases o.dst<;>rfl
   have hn:(st.put o.dst (.tup [])).n=st.n:=by cases o.dst<;>rfl
   refine ih (st.put o.dst (.tup [])) (a.put o.dst undef) w L F (h.put (st':=st.put o.dst (.tup [])) (by rw[hH,hn];exact h.ok) (by rw[hH,hn];exact zbs.refl _ _ _ _ _) hd (by simp only[zag];exact⟨[],rfl,trivial⟩) rfl) ?_ hs'
   unfold zfv;rw[hH,hn];exact zbs.refl _ _ _ _ _
theorem zk3 (hT:zai P G T){id:Nat}{ops:Array Oper}(h:zgb P G T N tag0 am ops ops.toList (Q .normal) st):W P G N (.region id ops false) Q st:=by
 intro a w L F hr
 refine wp_region ?_
 have:=zn1 hT (Q':=fun e a' w'=>Sat G N st w L F (Q e) a' w') ops.toList 0 (by simp) st a w L F hr h (fun _ _ hs=>hs)
 have e:(List.range ops.toList.length).map (0+·)=List.range ops.size:=by
  simp
 rwa [e]at this
end
end Go.Abs
namespace Go.Abs
open Go
section
variable {P:Program} {G:Nat→List FD} {T:Tbl} {N tag0:Nat} {am:Nat→Bool} {st st2:St} {a:Act} {w:World} {L:Loc} {F:Nat→Nat→Prop} {K:St→Prop} {ops:Array Oper}
theorem zhR {o:Oper}{ev ev':Operand→D}{H:zaw}(h:∀x∈o.op.operands,ev x=ev' x):zbn P o ev H=zbn P o ev' H:=by
 obtain⟨dst,op,type,pos,after,guard⟩:=o
 cases op<;>simp only[Op.operands]at h<;>simp only[zbn]
 case build t ps=>
  have h':∀p∈ps.toList,ev p.2=ev' p.2:=fun p hp=>h p.2 (by simpa using⟨p.1,by simpa using hp⟩)
  have e1:(ps.toList.all fun p=>(ev p.2).known)=(ps.toList.all fun p=>(ev' p.2).known):=by
   rw[Bool.eq_iff_iff,List.all_eq_true,List.all_eq_true]
   exact⟨fun hh p hp=>by rw[←h' p hp];exact hh p hp,fun hh p hp=>by rw[h' p hp];exact hh p hp⟩
  have e2:(ps.toList.map fun p=>(p.1,ev p.2))=(ps.toList.map fun p=>(p.1,ev' p.2)):=List.map_congr_left fun p hp=>by rw[h' p hp]
  rw[e1,e2]
 case makeFunc fn first caps=>
  have e:caps.toList.map ev=caps.toList.map ev':=List.map_congr_left fun x hx=>h x (by simp;exact .inr (by simpa using hx))
  cases fn<;>simp only[e]
 case call c=>
  have e:c.args.toList.map ev=c.args.toList.map ev':=List.map_congr_left fun x hx=>h x (by simp[Call.operands];exact .inr (by simpa using hx))
  cases c.callee<;>simp only[e]
 case slice t x lo hi mx=>cases lo<;>cases hi<;>cases mx<;>simp_all
 all_goals(first|rfl|(simp_all;done))
def zcQ:Op→Bool
 | .load _ _=>false
 |_=>true
theorem zqb {o:Oper}{ev:Operand→D}{H H':zaw}(h:zcQ o.op=true):zbn P o ev H=zbn P o ev H':=by
 obtain⟨dst,op,type,pos,after,guard⟩:=o
 cases op<;>first|rfl|(simp[zcQ]at h;done)|(rename_i f _ _;cases f<;>rfl)
theorem zi7 {o:Oper}{ev:Operand→D}{H H':zaw}(h:zcQ o.op=true):zbp P T o ev H=zbp P T o ev H':=by
 unfold zbp
 rw[zqb h]
theorem zol {c:Call}{ev ev':Operand→D}(h:∀x∈c.operands,ev x=ev' x):c.args.toList.map ev=c.args.toList.map ev':=
 List.map_congr_left fun x hx=>h x (by simp[Call.operands];exact .inr (by simpa using hx))
theorem znw {o:Oper}{ev ev':Operand→D}{H:zaw}(h:∀x∈o.op.operands,ev x=ev' x):zbp P T o ev H=zbp P T o ev' H:=by
 unfold zbp
 rw[zhR h]
 obtain⟨dst,op,type,pos,after,guard⟩:=o
 cases zbn P ⟨dst,op,type,pos,after,guard⟩ ev' H with
 |some r=>rfl
 |none=>
  cases op<;>simp only
  case buildSlice t n ps=>
   have e2:(ps.toList.map fun p=>ev p.2)=(ps.toList.map fun p=>ev' p.2):=List.map_congr_left fun p hp=>h p.2 (by simpa[Op.operands]using⟨p.1,by simpa using hp⟩)
   rw[e2]
  case call c=>
   have e:=zol (c:=c) h
   rw[e]
   cases hc:c.callee with
   |value f=>simp only;rw[h f (by simp[Op.operands,Call.operands,hc])]
   |invoke r m=>rfl
   |builtin b=>
    cases b<;>try rfl
    simp only
    have h':∀x∈c.args.toList,ev x=ev' x:=fun x hx=>h x (by simp[Op.operands,Call.operands,hc];simpa using hx)
    split
    ·rename_i x y t u ha ht
     rw[ha]at h'
     rw[h' x (by simp),h' y (by simp)]
    ·rfl
def zdL (fr:Nat→D)(dst:Option Tmp)(e:D):Nat→D:=
 match dst with
 |some t=>upd fr t e
 |none=>fr
def zt2 (fr fr2:Nat→D)(dst:Option Tmp)(s s2:St):Prop:=∃e H n,s=⟨zdL fr dst e,H,n⟩∧s2=⟨zdL fr2 dst e,H,n⟩
theorem zdD {fr fr2:Nat→D}{H:zaw}{n:Nat}{dst:Option Tmp}{e:D}:zt2 fr fr2 dst (St.put ⟨fr,H,n⟩ dst e) (St.put ⟨fr2,H,n⟩ dst e):=by
 refine⟨e,H,n,?_,?_⟩<;>cases dst<;>rfl
theorem zcC {fr fr2:Nat→D}{H:zaw}{n:Nat}{dst:Option Tmp}{e:D}{id:Id}{ob:O}:zt2 fr fr2 dst (St.new ⟨fr,H,n⟩ id ob dst e) (St.new ⟨fr2,H,n⟩ id ob dst e):=by
 refine⟨e,zaI H id (some ob),n+1,?_,?_⟩<;>cases dst<;>rfl
theorem ziv {fr fr2:Nat→D}{H:zaw}{n:Nat}{tag:Nat}{dst:Option Tmp}{t u:TypeId}{x y:D}{K2:St→Prop}(hk:∀s s2,K s→zt2 fr fr2 dst s s2→K2 s2)(h:zcI P ⟨fr,H,n⟩ tag dst t u x y K):
  zcI P ⟨fr2,H,n⟩ tag dst t u x y K2:=by
 unfold zcI at h ⊢
 split at h
 case h_2=>exact h.elim
 simp only at h ⊢
 split at h
 ·rcases h with⟨h1,h2,h3,h4,h5,hK⟩|⟨ys,h1,h2,h3,h4,hK⟩|⟨ys,h0,h0',h1,h2,h3,h4,hK⟩
  ·exact .inl ⟨h1,h2,h3,h4,h5,hk _ _ (hK) zcC⟩
  ·exact .inr (.inl ⟨ys,h1,h2,h3,h4,hk _ _ (hK) zdD⟩)
  ·exact .inr (.inr ⟨ys,h0,h0',h1,h2,h3,h4,hk _ _ (hK) zcC⟩)
 ·obtain⟨ys,ob,h0,h0',h1,h2,h3,h4,h5,h6,h7,hK⟩:=h
  exact⟨ys,ob,h0,h0',h1,h2,h3,h4,h5,h6,h7,hk _ _ (hK) zcC⟩
 ·split at h
  case h_2=>exact h.elim
  obtain⟨h1,h2,h3,h4,h5,h6,hK⟩:=h
  exact⟨h1,h2,h3,h4,h5,h6,hk _ _ (hK) zcC⟩
 ·exact h.elim
theorem zcx {fr fr2:Nat→D}{H:zaw}{n:Nat}{o:Oper}(he:∀x∈o.op.operands,St.ev G ⟨fr,H,n⟩ x=St.ev G ⟨fr2,H,n⟩ x){K2:St→Prop}(hk:∀s s2,K s→zt2 fr fr2 o.dst s s2→K2 s2)(h:zcW P G N tag0 o ⟨fr,H,n⟩ K):
  zcW P G N tag0 o ⟨fr2,H,n⟩ K2:=by
 unfold zcW at h ⊢
 simp only at h ⊢
 rw[←zhR he]
 cases hev:zbn P o (St.ev G ⟨fr,H,n⟩) H with
 |some r=>
  obtain⟨d,c⟩:=r
  rw[hev]at h
  obtain⟨h1,h2,h3⟩:=h
  exact⟨h1,h2,hk _ _ (h3) zdD⟩
 |none=>
  rw[hev]at h
  obtain⟨hd,h⟩:=h
  refine⟨hd,?_⟩
  obtain⟨dst,op,type,pos,after,guard⟩:=o
  cases op<;>simp only[Op.operands]at he<;>simp only at h ⊢
  case alloc e=>
   split at h
   ·exact hk _ _ h zcC
   ·exact h
  case box e x=>
   rw[←he x (by simp)]
   exact⟨h.1,hk _ _ (h.2) zcC⟩
  case makeSlice t l c=>
   rw[←he l (by simp),←he c (by simp)]
   split at h
   ·obtain⟨h1,h2,h3,h4,h5⟩:=h
    exact⟨h1,h2,h3,h4,hk _ _ (h5) zcC⟩
   ·exact h
  case buildSlice t k ps=>
   have e2:(ps.toList.map fun p=>St.ev G ⟨fr,H,n⟩ p.2)=(ps.toList.map fun p=>St.ev G ⟨fr2,H,n⟩ p.2):=List.map_congr_left fun p hp=>he p.2 (by simpa using⟨p.1,by simpa using hp⟩)
   have e3:∀m,(ps.toList.all fun p=>zvY m (St.ev G ⟨fr,H,n⟩ p.2))=(ps.toList.all fun p=>zvY m (St.ev G ⟨fr2,H,n⟩ p.2)):=fun m=>by
    have:=congrArg (fun l=>l.all (zvY m)) e2
    simp only[List.all_map]at this
    exact this
   have e4:(ps.toList.flatMap fun p=>(St.ev G ⟨fr,H,n⟩ p.2).cs)=(ps.toList.flatMap fun p=>(St.ev G ⟨fr2,H,n⟩ p.2).cs):=by
    have:=congrArg (fun l=>l.flatMap D.cs) e2
    simp only[List.flatMap_map]at this
    exact this
   rw[←e2,←e4]
   simp only[←e3]
   rcases h with h|h
   ·refine .inl ?_
    split at h
    ·obtain⟨h1,h2,h3,h4,h5⟩:=h
     exact⟨h1,h2,h3,h4,hk _ _ (h5) zdD⟩
    ·exact h
   ·refine .inr ?_
    split at h
    ·obtain⟨h1,h2,h3,h4,h5⟩:=h
     exact⟨h1,h2,h3,h4,hk _ _ (h5) zcC⟩
    ·exact h
  case store t p x=>
   rw[←he p (by simp),←he x (by simp)]
   split at h
   ·split at h
    ·obtain⟨h1,h2,h3,h4,h5,h6,h7⟩:=h
     subst h1
     exact⟨rfl,h2,h3,h4,h5,h6,hk _ _ h7 ⟨.junk,_,_,rfl,rfl⟩⟩
    ·exact h
   ·exact h
  case binOp op t x y yt=>
   split at h<;>(try(rename_i heq;cases heq;done))<;>(try exact h.elim)
   rename_i heq
   cases heq
   rw[←he x (by simp)]
   split at h
   ·exact fun b hb=>hk _ _ (h b hb) zdD
   ·exact fun b hb=>hk _ _ (h b hb) zdD
   ·exact h.elim
  case call c=>
   have e:=zol (c:=c) he
   cases hc:c.callee with
   |value f=>
    rw[hc]at h
    simp only at h ⊢
    rw[←he f (by simp[Call.operands,hc]),←e]
    split at h
    ·exact zaK h fun d H n hK=>hk _ _ hK zdD
    ·exact h
   |invoke r m=>rw[hc]at h;exact h
   |builtin b=>
    rw[hc]at h
    cases b<;>try exact h
    simp only at h ⊢
    have h':∀x∈c.args.toList,St.ev G ⟨fr,H,n⟩ x=St.ev G ⟨fr2,H,n⟩ x:=fun x hx=>he x (by simp[Call.operands,hc];simpa using hx)
    split at h
    ·rename_i x y t u ha ht
     rw[ha]at h'
     rw[←h' x (by simp),←h' y (by simp)]
     exact ziv hk h
    ·exact h
  all_goals exact h
theorem zcp {dst:Option Tmp}{d:D}:st.put dst d=⟨zdL st.fr dst d,st.H,st.n⟩:=by cases dst<;>rfl
theorem znv {o:Oper}{dst:Option Tmp}{fr:Nat→D}{H H':zaw}{n n':Nat}{e:D}(h:∀d,dst=some d→d∉o.looksAt ops):∀x∈o.op.operands,St.ev G ⟨zdL fr dst e,H,n⟩ x=St.ev G ⟨fr,H',n'⟩ x:=by
 intro x hx
 cases x with
 |tmp t=>
  simp only[St.ev]
  cases dst with
  |none=>rfl
  |some d=>
   simp only[zdL,upd]
   rw[if_neg]
   rintro rfl
   exact h _ rfl (List.mem_append_left _ (List.mem_filterMap.2 ⟨.tmp t,by simpa using hx,rfl⟩))
 |_=>rfl
theorem zfP {o:Oper}{dst:Option Tmp}{fr:Nat→D}{e:D}(h:∀d,dst=some d→d∉o.looksAt ops):zmZ ops (zdL fr dst e) o.guard=zmZ ops fr o.guard:=by
 cases hg:o.guard with
 |none=>rfl
 |some jw=>
  obtain⟨j,want⟩:=jw
  simp only[zmZ]
  cases ht:(ops[j]?).bind (·.dst)with
  |none=>rfl
  |some t=>
   simp only[ob]
   cases dst with
   |none=>rfl
   |some d=>
    simp only[zdL,upd]
    rw[if_neg]
    rintro rfl
    exact h _ rfl (by simp[Oper.looksAt,hg,ht])
theorem zdM {x y:Option Tmp}{fr:Nat→D}{u v:D}(h:∀d,x=some d→y≠some d):zdL (zdL fr x u) y v=zdL (zdL fr y v) x u:=by
 cases x with
 |none=>rfl
 |some d=>
  cases y with
  |none=>rfl
  |some e=>
   have hne:d≠e:=fun he=>h d rfl (he▸rfl)
   funext j
   simp only[zdL,upd]
   by_cases h1:j=e
   ·subst h1;rw[if_pos rfl,if_neg (Ne.symm hne),if_pos rfl]
   ·rw[if_neg h1,if_neg h1]
def qv (P:Program)(G:Nat→List FD)(T:Tbl)(ops:Array Oper)(o:Oper)(st:St):Option (D×Prop):=
 match zmZ ops st.fr o.guard with
 |some true=>zbp P T o (st.ev G) st.H
 |some false=>some (.tup [],True)
 |none=>none
def zca (P:Program)(G:Nat→List FD)(T:Tbl)(N tag0:Nat)(ops:Array Oper)(q:Bool)(o:Oper)(st:St)(K:St→Prop):Prop:=
 if q then∃d c,qv P G T ops o st=some (d,c)∧zbd N o.dst=true∧c∧K (st.put o.dst d)
 else match zmZ ops st.fr o.guard with
  |some true=>zcW P G N tag0 o st K
  |some false=>zbd N o.dst=true∧K (st.put o.dst (.tup []))
  |none=>False
theorem zgm {o:Oper}{dst:Option Tmp}{fr:Nat→D}{H H':zaw}{n n':Nat}{e:D}(h:∀d,dst=some d→d∉o.looksAt ops)(hh:H'=H∨zcQ o.op=true):
  qv P G T ops o ⟨zdL fr dst e,H',n'⟩=qv P G T ops o ⟨fr,H,n⟩:=by
 unfold qv
 simp only
 rw[zfP h,znw (znv (H':=H) (n':=n) h)]
 rcases hh with rfl|hh
 ·rfl
 ·rw[zi7 (H:=H') (H':=H) hh]
theorem zkP {oi oj:Oper}{q:Bool}{fr:Nat→D}{H:zaw}{n:Nat}{d:D}{c:Prop}(hap:oi.apart ops oj=true)(hh:q=true∨zcQ oi.op=true)(hy:qv P G T ops oi ⟨fr,H,n⟩=some (d,c))
  (h:zca P G T N tag0 ops q oj ⟨zdL fr oi.dst d,H,n⟩ K):zca P G T N tag0 ops q oj ⟨fr,H,n⟩ (fun s=>qv P G T ops oi s=some (d,c)∧K ⟨zdL s.fr oi.dst d,s.H,s.n⟩):=by
 obtain⟨h1,h2,h3⟩:=Oper.apart_spec hap
 unfold zca at h ⊢
 have eput:∀(e:D),(St.put ⟨fr,H,n⟩ oj.dst e)=⟨zdL fr oj.dst e,H,n⟩:=fun e=>zcp
 have eput2:∀(e:D),(St.put ⟨zdL fr oi.dst d,H,n⟩ oj.dst e)=⟨zdL (zdL fr oj.dst e) oi.dst d,H,n⟩:=fun e=>by rw[zcp];simp only;rw[zdM h2]
 have hyj:∀e,qv P G T ops oi ⟨zdL fr oj.dst e,H,n⟩=some (d,c):=fun e=>(zgm h3 (.inl rfl)).trans hy
 split
 ·rename_i hq
  simp only[hq,if_true]at h
  obtain⟨e,c',g1,g2,g3,g4⟩:=h
  refine⟨e,c',(zgm h1 (.inl rfl)).symm.trans g1,g2,g3,?_,?_⟩
  ·rw[eput];exact hyj e
  ·rw[eput];rw[eput2]at g4;exact g4
 ·rename_i hq
  simp only[hq]at h
  simp only at h ⊢
  rw[zfP h1]at h
  split
  ·rename_i hg
   simp only[hg]at h
   refine zcx (fr2:=fr) (znv h1) ?_ h
   rintro s s2 hK ⟨e,H',n',rfl,rfl⟩
   refine⟨(zgm h3 (.inr (hh.resolve_left hq))).trans hy,?_⟩
   simp only
   rw[zdM h2]at hK
   exact hK
  ·rename_i hg
   simp only[hg]at h
   refine⟨h.1,?_,?_⟩
   ·rw[eput];exact hyj _
   ·have:=h.2
    rw[eput2]at this
    rw[eput]
    exact this
  ·rename_i hg
   simp[hg]at h
def ztS (P:Program)(G:Nat→List FD)(T:Tbl)(N tag0:Nat)(ops:Array Oper)(q:Nat→Bool)(K:St→Prop):Nat→Array Bool→St→Prop
 |0,listed,st=>Region.ready .any ops listed=[]∧K st
 |fuel+1,listed,st=>(Region.ready .any ops listed=[]→K st)∧
  ∀i∈Region.ready .any ops listed,∀o,ops[i]?=some o→zca P G T N tag0 ops (q i) o st (ztS P G T N tag0 ops q K fuel (listed.setIfInBounds i true))
theorem zvG (hT:zai P G T){Q':Exit→Act→World→Prop}{K':Act→World→Prop}{i:Nat}{o:Oper}{q:Bool}(ho:ops[i]?=some o)(h:Rel G N st a w L F)(hs:zca P G T N tag0 ops q o st K)
  (hk:∀a' w',Sat G N st w L F K a' w'→K' a' w'):wpOp P ops Q' i K' a w:=by
 unfold wpOp
 simp only[ho]
 have sym:∀{K},zcW P G N tag0 o st K→(∀a' w',Sat G N st w L F K a' w'→K' a' w')→o.wp P a w K' Q':=fun h1 h2=>Oper.wp_mono h2 (zkS h h1)
 have skip:zbd N o.dst=true→K (st.put o.dst (.tup []))→K' (a.put o.dst undef) w:=by
  intro hd hK
  have hH:(st.put o.dst (.tup [])).H=st.H:=by cases o.dst<;>rfl
  have hn:(st.put o.dst (.tup [])).n=st.n:=by cases o.dst<;>rfl
  refine hk _ _ ⟨st.put o.dst (.tup []),L,F,hK,h.put (st':=st.put o.dst (.tup [])) (by rw[hH,hn];exact h.ok) (by rw[hH,hn];exact zbs.refl _ _ _ _ _) hd (by simp only[zag];exact⟨[],rfl,trivial⟩) rfl,?_⟩
  unfold zfv;rw[hH,hn];exact zbs.refl _ _ _ _ _
 unfold zca at hs
 split at hs
 ·obtain⟨d,c,h1,h2,h3,h4⟩:=hs
  unfold qv at h1
  split at h1
  ·rename_i hg
   rw[zct h hg]
   simp only[if_true]
   exact .inl (sym (zlN hT h2 h1 h3 h4) hk)
  ·rename_i hg
   rw[zct h hg]
   simp only[Option.some.injEq,Prod.mk.injEq]at h1
   obtain⟨rfl,rfl⟩:=h1
   simp only[Bool.false_eq_true,if_false]
   exact skip h2 h4
  ·cases h1
 ·split at hs
  ·rename_i hg
   rw[zct h hg]
   simp only[if_true]
   exact .inl (sym hs hk)
  ·rename_i hg
   rw[zct h hg]
   simp only[Bool.false_eq_true,if_false]
   exact skip hs.1 hs.2
  ·exact hs.elim
theorem zjJ (hT:zai P G T){q:Nat→Bool}{Q':Exit→Act→World→Prop}:∀(fuel:Nat) (listed:Array Bool) (st:St) (a:Act) (w:World) (L:Loc) (F:Nat→Nat→Prop),Rel G N st a w L F→ztS P G T N tag0 ops q K fuel listed st→
  (∀a' w',Sat G N st w L F K a' w'→Q' .normal a' w')→wpAny P .any ops Q' fuel listed a w
 |0,listed,st,a,w,L,F,h,hs,hQ=>⟨hs.1,hQ _ _ ⟨st,L,F,hs.2,h,zbs.refl _ _ _ _ _⟩⟩
 |fuel+1,listed,st,a,w,L,F,h,hs,hQ=>by
  refine⟨fun hr=>hQ _ _ ⟨st,L,F,hs.1 hr,h,zbs.refl _ _ _ _ _⟩,fun i hi=>?_⟩
  obtain⟨_,o,ho,_⟩:=mem_ready.1 hi
  refine zvG hT ho h (hs.2 i hi o ho) ?_
  rintro a' w' ⟨st1,L1,F1,h1,h2,h3⟩
  exact zjJ hT fuel _ st1 a' w' L1 F1 h2 h1 fun a2 w2 hsat=>hQ _ _ (hsat.trans h3)
theorem zpw {q:Nat→Bool}{i:Nat}{oi:Oper}{d:D}{c:Prop}(hi:ops[i]?=some oi)(hqi:q i=true)(hc:c)(hd:zbd N oi.dst=true)(B:Nat→Bool)
  (hB:∀j oj,ops[j]?=some oj→B j=true→∃e∈oj.after,Region.binds .any e=true∧(e.on=i∨B e.on=true)):
  ∀(fuel:Nat) (listed:Array Bool) (st:St),(∀j,B j=true→listed.getD j false=false)→
   (∀j oj,ops[j]?=some oj→j≠i→listed.getD j true=false→B j=false→oi.apart ops oj=true∧(q j=true∨zcQ oi.op=true))→
   i∈Region.ready .any ops listed→qv P G T ops oi st=some (d,c)→
   ztS P G T N tag0 ops q K fuel (listed.setIfInBounds i true) (st.put oi.dst d)→ztS P G T N tag0 ops q K (fuel+1) listed st:=by
 intro fuel
 have take:∀{st K},qv P G T ops oi st=some (d,c)→K (st.put oi.dst d)→zca P G T N tag0 ops (q i) oi st K:=by
  intro st K hy hK
  unfold zca
  rw[if_pos hqi]
  exact⟨d,c,hy,hd,hc,hK⟩
 induction fuel with
 |zero=>
  intro listed st _ _ hr hy H
  refine⟨fun h=>(by rw[h]at hr;cases hr),fun j hj oj hoj=>?_⟩
  by_cases hji:j=i
  ·subst hji;rw[hi]at hoj;obtain rfl:=Option.some.inj hoj;exact take hy H
  ·have:=ready_mono hj hji
   rw[H.1]at this
   cases this
 |succ fuel ih=>
  intro listed st hBl hfree hr hy H
  refine⟨fun h=>(by rw[h]at hr;cases hr),fun j hj oj hoj=>?_⟩
  by_cases hji:j=i
  ·subst hji;rw[hi]at hoj;obtain rfl:=Option.some.inj hoj;exact take hy H
  ·have h1:=H.2 j (ready_mono hj hji) oj hoj
   obtain⟨hjun,oj',hoj',hall⟩:=mem_ready.1 hj
   rw[hoj]at hoj'
   obtain rfl:=Option.some.inj hoj'
   have hnl:listed.getD i false=false:=by
    have h0:=(mem_ready.1 hr).1
    rcases Nat.lt_or_ge i listed.size with h'|h'
    ·simp[h']at h0 ⊢;exact h0
    ·simp[Array.getElem?_eq_none h']
   have hBj:B j=false:=by
    cases hb:B j with
    |false=>rfl
    |true=>
     obtain⟨e,he,hbe,h3⟩:=hB j oj hoj hb
     have h4:=hall e he hbe
     rcases h3 with h3|h3
     ·rw[h3,hnl]at h4;cases h4
     ·rw[hBl _ h3]at h4;cases h4
   obtain⟨hap,hh⟩:=hfree j oj hoj hji hjun hBj
   have hBl':∀k,B k=true→(listed.setIfInBounds j true).getD k false=false:=fun k hk=>by
    by_cases hjk:j=k
    ·subst hjk;rw[hBj]at hk;cases hk
    ·rw[getD_set_ne false hjk];exact hBl k hk
   have hfree':∀k ok,ops[k]?=some ok→k≠i→(listed.setIfInBounds j true).getD k true=false→
     B k=false→oi.apart ops ok=true∧(q k=true∨zcQ oi.op=true):=fun k ok hk hki hun hno=>by
    refine hfree k ok hk hki ?_ hno
    by_cases hjk:j=k
    ·subst hjk;exact hjun
    ·rw[getD_set_ne true hjk]at hun;exact hun
   rw[zcp]at h1
   have h2:=zkP hap hh (fr:=st.fr) (H:=st.H) (n:=st.n) hy h1
   have mono:∀{K1 K2:St→Prop},(∀s,K1 s→K2 s)→zca P G T N tag0 ops (q j) oj st K1→zca P G T N tag0 ops (q j) oj st K2:=by
    intro K1 K2 hk hs
    unfold zca at hs ⊢
    split
    ·rename_i hq
     simp only[hq,if_true]at hs
     obtain⟨e,c',g1,g2,g3,g4⟩:=hs
     exact⟨e,c',g1,g2,g3,hk _ g4⟩
    ·rename_i hq
     simp only[hq]at hs
     split
     ·rename_i hg
      simp[hg]at hs
      refine zcx (fr:=st.fr) (fr2:=st.fr) (fun _ _=>rfl) ?_ hs
      rintro s s2 hK ⟨e,H',n',rfl,rfl⟩
      exact hk _ hK
     ·rename_i hg
      simp[hg]at hs
      exact⟨hs.1,hk _ hs.2⟩
     ·rename_i hg
      simp[hg]at hs
   refine mono (fun s h3=>ih (listed.setIfInBounds j true) s hBl' hfree' (ready_mono hr (Ne.symm hji)) h3.1 ?_) h2
   rw[Array.setIfInBounds_comm _ _ hji,zcp]
   exact h3.2
def zcG (am:Nat→Bool)(T:Tbl)(o:Oper):Bool:=
 match o.op with
 | .move _| .assign _| .pick _ _ _| .build _ _| .load _ _| .nilCheck _| .unOp _ _ _| .convert _ _ _| .slice _ _ _ _ _| .fieldAddr _ _ _| .field _ _ _| .indexAddr _ _ _| .index _ _ _| .extract _ _=>true
 | .buildSlice _ _ _=> !am (o.dst.getD 0)
 | .makeFunc (.func _) _ _=>true
 | .binOp _ _ _ y _=> !zdm y
 | .call c=>
  match c.callee with
  | .value (.func f)=>(T f).isSome
  | .builtin .append=> !am (o.dst.getD 0)
  | .builtin .len| .builtin .max| .builtin .min=>true
  |_=>false
 |_=>false
theorem zdN {o:Oper}{r:Option (D×Prop)}(hr:zbp P T o (st.ev G) st.H=r)(h:Vv N r st o.dst K):∃d c,zbp P T o (st.ev G) st.H=some (d,c)∧zbd N o.dst=true∧c∧K (st.put o.dst d):=by
 obtain⟨⟨d,c⟩,rfl,h1,h2,h3⟩:=zbY h
 exact⟨d,c,hr,h1,h2,h3⟩
theorem zbv {o:Oper}{r:Option (D×Prop)}(hr:zbn P o (st.ev G) st.H=r)(hn:zbn P o (st.ev G) st.H=none→zbp P T o (st.ev G) st.H=none):zbp P T o (st.ev G) st.H=r:=by
 cases r with
 |some r=>unfold zbp;rw[hr]
 |none=>exact hn hr
theorem zDr:∀(o:Oper),zcG am T o=true→XO P G T N tag0 am st K o.dst o.op→∃d c,zbp P T o (st.ev G) st.H=some (d,c)∧zbd N o.dst=true∧c∧K (st.put o.dst d):=by
 intro o hq h
 obtain⟨dst,op,ty,pos,after,guard⟩:=o
 cases op with
 |move x=>exact⟨_,True,rfl,h.1,trivial,h.2⟩
 |assign x=>exact⟨_,True,rfl,h.1,trivial,h.2⟩
 |pick c a b=>exact zdN (zbv rfl fun hn=>by simp only[zbp,hn]) h
 |build t ps=>
  obtain⟨h1,h2⟩:=h
  refine zdN (zbv ?_ fun hn=>by simp only[zbp,hn]) h2
  simp only[zbn]
  rw[if_pos h1]
 |load t a=>exact zdN (zbv rfl fun hn=>by simp only[zbp,hn]) h
 |nilCheck x=>exact zdN (zbv rfl fun hn=>by simp only[zbp,hn]) h
 |binOp op t x y yt=>
  simp only[zcG,Bool.not_eq_true']at hq
  simp only[XO,hq]at h
  exact zdN (zbv rfl fun hn=>by simp only[zbp,hn]) h
 |unOp op t x=>exact zdN (zbv rfl fun hn=>by simp only[zbp,hn]) h
 |convert s t x=>exact zdN (zbv rfl fun hn=>by simp only[zbp,hn]) h
 |makeFunc f first caps=>
  cases f with
  |func f=>
   obtain⟨h1,h2⟩:=h
   simp only[Bool.and_eq_true,beq_iff_eq]at h1
   refine⟨_,True,?_,h1.2,trivial,h2⟩
   simp only[zbp,zbn,h1.1,if_true]
  |_=>exact h.elim
 |slice t x lo hi mx=>exact zdN (zbv rfl fun hn=>by simp only[zbp,hn]) h
 |fieldAddr t x i=>exact zdN (zbv rfl fun hn=>by simp only[zbp,hn]) h
 |field t x i=>exact zdN (zbv rfl fun hn=>by simp only[zbp,hn]) h
 |indexAddr t x i=>exact zdN (zbv rfl fun hn=>by simp only[zbp,hn]) h
 |index t x i=>exact zdN (zbv rfl fun hn=>by simp only[zbp,hn]) h
 |extract x i=>exact zdN (zbv rfl fun hn=>by simp only[zbp,hn]) h
 |buildSlice t n ps=>
  simp only[zcG,Bool.not_eq_true']at hq
  simp only[XO,hq]at h
  exact zdN (o:=⟨dst,.buildSlice t n ps,ty,pos,after,guard⟩) rfl h
 |call c=>
  obtain⟨callee,args,ts⟩:=c
  simp only[XO]at h
  cases callee with
  |value f=>
   cases f with
   |func g=>
    simp only[zcG]at hq
    simp only[zrt]at h
    obtain⟨⟨g',caps⟩,h1,h2⟩:=zbY h
    simp only[St.ev,zAi,Option.some.injEq,Prod.mk.injEq]at h1
    obtain⟨rfl,rfl⟩:=h1
    cases ht:T g with
    |none=>rw[ht]at hq;cases hq
    |some t=>
     simp only[ht]at h2
     obtain⟨xs,h3,h4⟩:=zbY h2
     refine zdN (o:=⟨dst,.call ⟨.value (.func g),args,ts⟩,ty,pos,after,guard⟩) (r:=t xs) ?_ h4
     simp only[zbp,zbn,St.ev,zoE,ht]
     rw[h3]
   |_=>cases hq
  |invoke _ _=>cases hq
  |builtin b=>
   cases b with
   |len=>exact zdN (zbv (o:=⟨dst,.call ⟨.builtin .len,args,ts⟩,ty,pos,after,guard⟩) rfl fun hn=>by simp only[zbp,hn]) h
   |max=>exact zdN (zbv (o:=⟨dst,.call ⟨.builtin .max,args,ts⟩,ty,pos,after,guard⟩) rfl fun hn=>by simp only[zbp,hn]) h
   |min=>exact zdN (zbv (o:=⟨dst,.call ⟨.builtin .min,args,ts⟩,ty,pos,after,guard⟩) rfl fun hn=>by simp only[zbp,hn]) h
   |append=>
    simp only[zcG,Bool.not_eq_true']at hq
    simp only[zrt]at h
    unfold zBR at h
    split at h
    case h_2=>exact h.elim
    rename_i x y t u ha ht
    simp only[hq]at h
    refine zdN (o:=⟨dst,.call ⟨.builtin .append,args,ts⟩,ty,pos,after,guard⟩) ?_ h
    simp only[zbp,zbn,zaY,ha,ht]
   |_=>cases hq
 |_=>cases hq
def zcu (ops:Array Oper)(i:Nat):List Nat:=
 (List.range ops.size).foldl (fun acc j=>match ops[j]? with
  |some oj=>if oj.after.any (fun e=>Region.binds .any e&&(e.on==i||acc.contains e.on))then j::acc else acc
  |none=>acc) []
def zsh (am:Nat→Bool)(T:Tbl)(ops:Array Oper)(listed:Array Bool)(i:Nat):Bool:=
 match ops[i]? with
 |none=>false
 |some oi=>
  ((zcu ops i).all fun j=> !listed.getD j false&&match ops[j]? with
   |some oj=>oj.after.any (fun e=>Region.binds .any e&&(e.on==i||(zcu ops i).contains e.on))
   |none=>true)&&
  (List.range ops.size).all fun j=>j==i||listed.getD j true||(zcu ops i).contains j||match ops[j]? with
   |some oj=>oi.apart ops oj&&(zcG am T oj||zcQ oi.op)
   |none=>true
def zhM (am:Nat→Bool)(T:Tbl)(ops:Array Oper):Nat→Nat→Array Bool→Bool
 |0,_,listed=>(Region.ready .any ops listed).isEmpty
 |m+1,k,listed=>(match ops[k]? with
   |some o=>if zcG am T o then(Region.ready .any ops listed).contains k&&zsh am T ops listed k else Region.ready .any ops listed==[k]
   |none=>false)&&zhM am T ops m (k+1) (listed.setIfInBounds k true)
def zhN (am:Nat→Bool)(T:Tbl)(ops:Array Oper):Bool:=zhM am T ops ops.size 0 (Array.replicate ops.size false)
theorem znA {listed:Array Bool}{i:Nat}{oi:Oper}(hi:ops[i]?=some oi)(h:zsh am T ops listed i=true):
  (∀j oj,ops[j]?=some oj→(zcu ops i).contains j=true→∃e∈oj.after,Region.binds .any e=true∧(e.on=i∨(zcu ops i).contains e.on=true))∧
  (∀j,(zcu ops i).contains j=true→listed.getD j false=false)∧
  (∀j oj,ops[j]?=some oj→j≠i→listed.getD j true=false→(zcu ops i).contains j=false→oi.apart ops oj=true∧(zcG am T oj=true∨zcQ oi.op=true)):=by
 unfold zsh at h
 rw[hi]at h
 simp only[Bool.and_eq_true]at h
 generalize zcu ops i=B at*
 obtain⟨hB,h⟩:=h
 rw[List.all_eq_true]at hB h
 refine⟨fun j oj hj hb=>?_,fun j hb=>?_,fun j oj hj hne hun hno=>?_⟩
 ·have h1:=hB j (by simpa using hb)
  rw[hj]at h1
  simp only[Bool.and_eq_true]at h1
  obtain⟨e,he,h2⟩:=Array.any_eq_true'.1 h1.2
  simp only[Bool.and_eq_true,Bool.or_eq_true,beq_iff_eq]at h2
  exact⟨e,he,h2.1,h2.2⟩
 ·have h1:=hB j (by simpa using hb)
  simp only[Bool.and_eq_true,Bool.not_eq_true']at h1
  exact h1.1
 ·have h1:=h j (by rw[List.mem_range];exact(Array.getElem?_eq_some_iff.1 hj).1)
  rw[hj,hun,hno]at h1
  simpa[hne]using h1
theorem zf2 (hT:zai P G T):∀(l:List Oper) (k:Nat) (listed:Array Bool) (st:St),(∀j,l[j]?=ops[k+j]?)→zhM am T ops l.length k listed=true→zgb P G T N tag0 am ops l K st→
  ztS P G T N tag0 ops (fun i=>((ops[i]?).map (zcG am T)).getD false) K l.length listed st
 |[],k,listed,st,_,hd,hs=>by
  simp only[List.length_nil,zhM,List.isEmpty_iff]at hd
  exact⟨hd,hs⟩
 |o::l,k,listed,st,hl,hd,hs=>by
  have h0:ops[k]?=some o:=by have:=hl 0;simpa using this.symm
  have hl':∀j,l[j]?=ops[k+1+j]?:=fun j=>by have:=hl (j+1);simp at this;rw[this];congr 1;omega
  simp only[List.length_cons,zhM,h0,Bool.and_eq_true]at hd
  obtain⟨hd1,hd2⟩:=hd
  obtain⟨b,hb,h1,h2⟩:=zbY hs
  simp only[List.length_cons]
  by_cases hq:zcG am T o=true
  ·rw[if_pos hq]at hd1
   simp only[Bool.and_eq_true]at hd1
   have hqk:((ops[k]?).map (zcG am T)).getD false=true:=by rw[h0];exact hq
   have hex:∃d c,qv P G T ops o st=some (d,c)∧zbd N o.dst=true∧c∧zgb P G T N tag0 am ops l K (st.put o.dst d):=by
    cases b with
    |true=>
     obtain⟨d,c,g1,g2,g3,g4⟩:=zDr o hq (h1 rfl)
     exact⟨d,c,by simp only[qv,hb];exact g1,g2,g3,g4⟩
    |false=>
     obtain⟨g1,g2⟩:=h2 rfl
     exact⟨.tup [],True,by simp only[qv,hb],g1,trivial,g2⟩
   obtain⟨d,c,g1,g2,g3,g4⟩:=hex
   obtain⟨f1,f2,f3⟩:=znA h0 hd1.2
   refine zpw h0 hqk g3 g2 (fun j=>(zcu ops k).contains j) f1 l.length listed st f2 ?_ (by simpa using hd1.1) g1 (zf2 hT l (k+1) _ _ hl' hd2 g4)
   intro j oj hj hne hun hno
   have:=f3 j oj hj hne hun hno
   rw[hj]
   exact this
  ·rw[if_neg hq]at hd1
   have hr:Region.ready .any ops listed=[k]:=by simpa using hd1
   refine⟨fun h=>(by rw[hr]at h;cases h),fun i hi o' ho'=>?_⟩
   rw[hr]at hi
   obtain rfl:i=k:=by simpa using hi
   rw[h0]at ho'
   obtain rfl:=Option.some.inj ho'
   unfold zca
   have:(((ops[i]?).map (zcG am T)).getD false)=false:=by rw[h0];simpa using hq
   simp only[this]
   simp only[hb]
   cases b with
   |true=>
    refine zcx (fr:=st.fr) (fr2:=st.fr) (K:=fun s=>zgb P G T N tag0 am ops l K s) (fun _ _=>rfl) ?_ (zod hT o (h1 rfl))
    rintro s s2 hK ⟨e,H',n',rfl,rfl⟩
    exact zf2 hT l (i+1) _ _ hl' hd2 hK
   |false=>
    obtain⟨g1,g2⟩:=h2 rfl
    exact⟨g1,zf2 hT l (i+1) _ _ hl' hd2 g2⟩
theorem zrC {w':World}(hh:w'.heap=w.heap)(b k:Nat):World.at w' b k=World.at w b k:=zej (by rw[hh]) k
theorem zhh {w':World}(hh:w'.heap=w.heap){U:Id→Prop}:Ext w L F U w' L F U:=
 ⟨fun _ h=>h,fun _ _=>rfl,fun _ _ h=>h,fun b k _=>zrC hh b k,by rw[hh];exact Nat.le_refl _,fun b cs T fr _ h=>⟨cs,T,fr,by rw[←hh];exact h,Nat.le_refl _⟩⟩
theorem OkW.heap {w':World}{H:zaw}{U:Id→Prop}(hok:OkW G w L F U H)(hh:w'.heap=w.heap):OkW G w' L F U H:=by
 refine⟨by rw[hh];exact hok.fb,fun id o ho=>?_,hok.inj,zb4 (fun _ _ h=>h) (fun b k _=>zrC hh b k) hok.glob⟩
 obtain⟨h1,h2⟩:=hok.live id o ho
 exact⟨h1,h2.ext (zhh hh) h1 fun hv=>⟨by rw[hh],(zax h2 hv).1⟩⟩
theorem zro (hm:P.follows .mixedOrders=true)(hT:zai P G T){Q:Exit→St→Prop}{id:Nat}(hd:zhN am T ops=true)(h:zgb P G T N tag0 am ops ops.toList (Q .normal) st):W P G N (.region id ops true) Q st:=by
 intro a w L F hr
 refine wp_region_any hm ?_
 have hr':Rel G N st a {w with drawn:=w.drawn+1} L F:=⟨hr.ok.heap rfl,hr.size,fun t=>(hr.fr t).ext (zhh (w:=w) (w':={w with drawn:=w.drawn+1}) rfl),hr.nd⟩
 have hst:zfv st w L F st {w with drawn:=w.drawn+1} L F:=⟨fun _ h=>h,fun _ _=>rfl,fun _ _ h=>h,Nat.le_refl _,fun _ _ _=>rfl,fun _ _ _ _=>rfl,fun _ cs T fr _ h=>⟨cs,T,fr,h,Nat.le_refl _⟩,fun _ _ h=> .inl h,fun _ _ h=> .inr h,rfl,rfl,rfl,Nat.le_succ _⟩
 have hd':zhM am T ops ops.toList.length 0 (Array.replicate ops.size false)=true:=by simpa[zhN]using hd
 have:=zjJ hT (Q':=fun e a' w'=>Sat G N st w L F (Q e) a' w') _ _ st a _ L F hr' (zf2 hT ops.toList 0 _ st (by simp) hd' h) (fun _ _ hs=>hs.trans hst)
 simpa using this
end
end Go.Abs
namespace Go.Abs
open Go
section
variable {P:Program} {G:Nat→List FD} {T:Tbl} {N tag0:Nat} {am:Nat→Bool} {st:St} {a:Act} {w:World} {L:Loc} {F:Nat→Nat→Prop} {K:St→Prop} {Q:Exit→St→Prop}
def zFe (R:St→Prop)(Q:Exit→St→Prop):Exit→St→Prop
 | .normal,st=>R st
 | .exit i,st=>Q (.exit i) st
 | .goto l,st=>Q (.goto l) st
 | .ret,st=>Q .ret st
 | .panic c,st=>Q (.panic c) st
 | .outgrown,st=>Q .outgrown st
def zrP (x y:Prop):D→Prop
 | .fz (.b t)=>zdA t x y
 |_=>False
def XC (P:Program)(G:Nat→List FD)(T:Tbl)(N tag0:Nat)(am:Nat→Bool):Code→(Exit→St→Prop)→St→Prop
 | .skip,Q,st=>Q .normal st
 | .seq x y,Q,st=>XC P G T N tag0 am x (zFe (XC P G T N tag0 am y Q) Q) st
 | .cond c x y,Q,st=>zrP (XC P G T N tag0 am x Q st) (XC P G T N tag0 am y Q st) (st.ev G c)
 | .block id c,Q,st=>XC P G T N tag0 am c (zhA id Q) st
 | .exit id,Q,st=>Q (.exit id) st
 | .ret,Q,st=>Q .ret st
 | .region _ ops false,Q,st=>zgb P G T N tag0 am ops ops.toList (Q .normal) st
 | .region id ops true,Q,st=>zdA (am (1000000+id)) (W P G N (.region id ops true) Q st) (zgb P G T N tag0 am ops ops.toList (Q .normal) st)
 |c,Q,st=>W P G N c Q st
def zbK (am:Nat→Bool)(T:Tbl):Code→Bool
 | .seq x y=>zbK am T x&&zbK am T y
 | .cond _ x y=>zbK am T x&&zbK am T y
 | .block _ c=>zbK am T c
 | .region id ops true=>am (1000000+id)||zhN am T ops
 |_=>true
theorem zm6 (hm:P.follows .mixedOrders=true)(hT:zai P G T):∀(c:Code) (Q:Exit→St→Prop) (st:St),zbK am T c=true→XC P G T N tag0 am c Q st→W P G N c Q st
 | .skip,_,_,_,h=>zv8 h
 | .seq x y,Q,st,hd,h=>by
  simp only[XC]at h
  simp only[zbK,Bool.and_eq_true]at hd
  refine zzK (zv7 (zm6 hm hT x _ st hd.1 h) fun e st1 h1=>?_)
  cases e with
  |normal=>exact zm6 hm hT y Q st1 hd.2 h1
  |_=>exact h1
 | .cond c x y,Q,st,hd,h=>by
  simp only[XC]at h
  simp only[zbK,Bool.and_eq_true]at hd
  unfold zrP at h
  split at h
  ·rename_i t ht
   exact zv4 ht (fun hh=>zm6 hm hT x Q st hd.1 (h.1 hh)) (fun hh=>zm6 hm hT y Q st hd.2 (h.2 hh))
  ·exact h.elim
 | .block id c,Q,st,hd,h=>by
  simp only[XC]at h
  exact zrn (zm6 hm hT c _ st hd h)
 | .exit id,_,_,_,h=>zv5 h
 | .ret,_,_,_,h=>zzJ h
 | .region _ ops false,Q,st,_,h=>by
  simp only[XC]at h
  exact zk3 hT h
 | .region id ops true,Q,st,hd,h=>by
  simp only[XC]at h
  simp only[zbK]at hd
  cases ha:am (1000000+id)with
  |true=>exact h.1 ha
  |false=>exact zro hm hT (by simpa[ha]using hd) (h.2 ha)
 | .loop _,Q,st,_,h=>by simpa only[XC]using h
 | .rangeFunc _ _ _ _,Q,st,_,h=>by simpa only[XC]using h
 | .scope _,Q,st,_,h=>by simpa only[XC]using h
 | .label _,Q,st,_,h=>by simpa only[XC]using h
 | .goto _,Q,st,_,h=>by simpa only[XC]using h
 | .refuse _,Q,st,_,h=>by simpa only[XC]using h
theorem zjY {ts:Array TypeId}{x:D}:zaY P .len ts [x]=ob ts[0]? fun t=>zlK P t x:=by
 simp only[zaY];cases ts[0]?<;>rfl
theorem zjZ {ts:Array TypeId}{k k':IntKind}{x y:Int}:zaY P .max ts [.fz (.i k x),.fz (.i k' y)]=some (.fz (.i k (max x y)),k=k'):=rfl
theorem zj0 {ts:Array TypeId}{k k':IntKind}{x y:Int}:zaY P .min ts [.fz (.i k x),.fz (.i k' y)]=some (.fz (.i k (min x y)),k=k'):=rfl
def zFr (P:Program)(fn:Func)(Q:D→zaw→Nat→Prop)(st:St):Prop:=
 Bi (zd0 P st fn.results.toList) fun dc=>Req dc.2 (Q (one dc.1) st.H st.n)
theorem zrm {fn:Func}{R:D→zaw→Nat→Prop}:(match zd0 P st fn.results.toList with
  |some (ds,c)=>c∧R (one ds) st.H st.n
  |none=>False)=zFr P fn R st:=by
 unfold zFr Bi Req
 cases zd0 P st fn.results.toList<;>rfl
theorem zta {t:Nat}:zkF P st (.tmp t)=some (st.fr t,True):=rfl
theorem zqF {t ty:Nat}:zkF P st (.cell t ty)=zev P st.H ty (st.fr t):=rfl
theorem ztb:zd0 P st []=some ([],True):=rfl
theorem zqG {r:ResultVar}{rs:List ResultVar}:zd0 P st (r::rs)=ob (zkF P st r) fun a=>ob (zd0 P st rs) fun b=>some (a.1::b.1,a.2∧b.2):=by
 simp only[zd0]
 unfold ob
 cases zkF P st r with
 |none=>rfl
 |some a=>simp only;cases zd0 P st rs<;>rfl
def zgE:Nat→List D→List (Nat×D)
 |_,[]=>[]
 |k,d::ds=>(k,d)::zgE (k+1) ds
theorem zoI:∀(ds:List D) (k t:Nat),frL (zgE k ds) t=if t<k then .junk else ds.getD (t-k) .junk
 |[],k,t=>by simp[zgE,frL]
 |d::ds,k,t=>by
  simp only[zgE,frL,zoI ds (k+1) t]
  by_cases h:t=k
  ·subst h;simp
  ·rw[if_neg h]
   by_cases h2:t<k
   ·rw[if_pos (by omega),if_pos h2]
   ·rw[if_neg (by omega),if_neg h2]
    have:t-k=(t-(k+1))+1:=by omega
    rw[this];rfl
theorem zdj (ds:List D):zjM ds=frL (zgE 0 ds):=by
 funext t;rw[zoI];simp[zjM]
theorem zwS (hm:P.follows .mixedOrders=true)(hT:zai P G T){f:FuncId}{fn:Func}{c:Code}{args:List D}{H:zaw}{n:Nat}{R:D→zaw→Nat→Prop}(tag0:Nat)(am:Nat→Bool)(hcall:zal P f)(hf:P.funcs[f]?=some fn)(hb:fn.body=some c){N:Nat}(hN:fn.ntmps=N)(hl:args.length≤N)
  (hd:zbK am T c=true)(h:XC P G T N tag0 am c (zDm P fn R) ⟨frL (zgE 0 args),H,n⟩):zaH P G f args H n R:=
 zhs hcall hf hb hN hl (by rw[zdj];exact zm6 hm hT _ _ _ hd h)
end
end Go.Abs
namespace Go.Abs
open Go
class Kn (α:Type) where
 run:α→Prop
class Ko (α β:Type) where
 run:α→Option β
class Kp where
 p:Prop
class Kd where
 run:D→zaw→Nat→Prop
class Ke where
 run:Exit→St→Prop
def zxu:List FD→D
 |[]=> .junk
 |x::xs=> .rp (x::xs)
def BiK {α:Type}(r:Option α)[k:Kn α]:Prop:=Bi r k.run
def obK {α β:Type}(r:Option α)[k:Ko α β]:Option β:=ob r k.run
def zaA (c:Prop)[k:Kp]:Prop:=Req c k.p
def zhq (b:Bool)[k:Kp]:Prop:=Chk b k.p
def za1 (b:Bool)[x:Kp][y:Kp]:Prop:=zdA b x.p y.p
def VvK (N:Nat)(r:Option (D×Prop))(st:St)(dst:Option Tmp)[k:Kn St]:Prop:=Vv N r st dst k.run
def XOK (P:Program)(G:Nat→List FD)(T:Tbl)(N tag0:Nat)(am:Nat→Bool)(st:St)(dst:Option Tmp)(o:Op)[k:Kn St]:Prop:=XO P G T N tag0 am st k.run dst o
def zjF (P:Program)(N:Nat)(op:BinOp)(t:TypeId)(x:D)(st:St)(dst:Option Tmp)[k:Kn St]:Prop:=zyF P N op t x st dst k.run
def ziW (P:Program)(G:Nat→List FD)(N:Nat)(g:FuncId)(args:List D)(st:St)(dst:Option Tmp)(r:Option (List FD→Option (D×Prop)))[k:Kn St]:Prop:=zzO P G N g args st dst k.run r
def zht (te:TI)(s:Nat×List D×Prop)(tag:Nat)(st:St)(dst:Option Tmp)(x:D)[k:Kn St]:Prop:=zwU te s tag st dst k.run x
def zhu (te:TI)(tag:Nat)(om:Bool)(y x:D)(st:St)(dst:Option Tmp)[k:Kn St]:Prop:=zzM te tag om st dst k.run y x
def zpv (P:Program)(G:Nat→List FD)(N tag:Nat)(am om:Bool)(args:List Operand)(ts:List TypeId)(st:St)(dst:Option Tmp)[k:Kn St]:Prop:=zBR P G N tag am om args ts st dst k.run
def zfy (P:Program)(G:Nat→List FD)(T:Tbl)(N tag:Nat)(am om:Bool)(args:Array Operand)(ts:Array TypeId)(st:St)(dst:Option Tmp)(c:Callee)[k:Kn St]:Prop:=zrt P G T N tag am om args ts st dst k.run c
def zd2 (P:Program)(G:Nat→List FD)(T:Tbl)(N tag0:Nat)(am:Nat→Bool)(ops:Array Oper)(os:List Oper)(st:St)[k:Kn St]:Prop:=zgb P G T N tag0 am ops os k.run st
def XCK (P:Program)(G:Nat→List FD)(T:Tbl)(N tag0:Nat)(am:Nat→Bool)(c:Code)(st:St)[q:Ke]:Prop:=XC P G T N tag0 am c q.run st
def zpH (d:D)[x:Kp][y:Kp]:Prop:=zrP x.p y.p d
def zwG (e:Exit)(st:St)[r:Kn St][q:Ke]:Prop:=zFe r.run q.run e st
def zfA (id:Nat)(e:Exit)(st:St)[q:Ke]:Prop:=zhA id q.run e st
def zwQ (P:Program)(fn:Func)(e:Exit)(st:St)[r:Kd]:Prop:=zDm P fn r.run e st
def zaV (P:Program)(G:Nat→List FD)(f:FuncId)(args:List D)(H:zaw)(n:Nat)[r:Kd]:Prop:=zaH P G f args H n r.run
def WK (P:Program)(G:Nat→List FD)(N:Nat)(c:Code)(st:St)[q:Ke]:Prop:=W P G N c q.run st
@[go_sem] theorem zKz {α:Type}{a:α}{k:α→Prop}:@BiK α (some a) ⟨k⟩=k a:=(rfl)
@[go_sem] theorem zKK {α β:Type}{a:α}{k:α→Option β}:@obK α β (some a) ⟨k⟩=k a:=(rfl)
@[go_sem] theorem zIs {k:Prop}:@zaA True ⟨k⟩=k:=zt6
@[go_sem] theorem zIr {k:Prop}:@zhq true ⟨k⟩=k:=zt3
@[go_sem] theorem zKE {x y:Prop}:@za1 true ⟨x⟩ ⟨y⟩=x:=zpp
@[go_sem] theorem zKB {x y:Prop}:@za1 false ⟨x⟩ ⟨y⟩=y:=zm3
@[go_sem] theorem zKC {b:Bool}{x y:Prop}:@za1 (!b) ⟨x⟩ ⟨y⟩=@za1 b ⟨y⟩ ⟨x⟩:=by
 cases b<;>simp[za1,zdA]
@[go_sem] theorem zKD {a b:Bool}{x y:Prop}:@za1 (a||b) ⟨x⟩ ⟨y⟩=@za1 a ⟨x⟩ ⟨@za1 b ⟨x⟩ ⟨y⟩⟩:=by
 cases a<;>simp[za1,zdA]
@[go_sem] theorem zKA {a b:Bool}{x y:Prop}:@za1 (a&&b) ⟨x⟩ ⟨y⟩=@za1 a ⟨@za1 b ⟨x⟩ ⟨y⟩⟩ ⟨y⟩:=by
 cases a<;>simp[za1,zdA]
theorem zaA.i {c k:Prop}(h:c)(h':c→k):@zaA c ⟨k⟩:=⟨h,h' h⟩
theorem za1.i {b:Bool}{x y:Prop}(h:b=true→x)(h':b=false→y):@za1 b ⟨x⟩ ⟨y⟩:=⟨h,h'⟩
theorem za1.d {p:Prop}[Decidable p]{x y:Prop}(h:p→x)(h':¬p→y):@za1 (decide p) ⟨x⟩ ⟨y⟩:=⟨fun e=>h (by simpa using e),fun e=>h' (by simpa using e)⟩
attribute [go_sem] zj5 zxs zvr zvp zBi zJb zJc zFg zAd zuL zxe znk zpI zjT zpJ znl zvU ztF zpT zpS zB8
attribute [go_sem] Option.bind_some zgE D.toFD D.toFDs
attribute [go_sem] decide_true decide_false Bool.and_true Bool.true_and Bool.and_false Bool.false_and Bool.or_true Bool.true_or Bool.or_false Bool.false_or Bool.not_true Bool.not_false beq_self_eq_true and_true true_and or_true true_or or_false false_or and_false false_and not_true_eq_false not_false_eq_true if_true if_false ne_eq Bool.false_eq_true eq_self implies_true Bool.not_not beq_true beq_false Bool.not_eq_true Bool.not_eq_false forall_const
attribute [go_sem] Prod.mk.injEq List.getD_cons_zero List.getD_cons_succ List.getElem?_cons_zero List.getElem?_cons_succ List.take_succ_cons List.take_zero List.drop_succ_cons List.drop_zero List.take_nil List.drop_nil List.length_cons List.length_nil List.map_cons List.map_nil List.all_cons List.all_nil List.getElem?_toArray Option.map_some Option.map_none Option.isSome_some Option.getD_some Option.getD_none List.cons_append List.nil_append List.append_nil List.map_map
@[go_sem] theorem zxW {α:Type}{l:List α}:(List.toArray l).toList=l:=rfl
@[go_sem] theorem znG:IntKind.min .i64= -9223372036854775808:=rfl
@[go_sem] theorem znF:IntKind.max .i64=9223372036854775807:=rfl
@[go_sem] theorem zHj:IntKind.min .u8=0:=rfl
@[go_sem] theorem zHi:IntKind.max .u8=255:=rfl
@[go_sem] theorem zDL:IntKind.min .i32= -2147483648:=rfl
@[go_sem] theorem zDK:IntKind.max .i32=2147483647:=rfl
@[go_sem] theorem zFn:IntKind.min .u64=0:=rfl
@[go_sem] theorem zFm:IntKind.max .u64=18446744073709551615:=rfl
@[go_sem] theorem zBd {α:Type}{l:List α}:(List.toArray l).size=l.length:=rfl
section
variable {P:Program} {G:Nat→List FD} {T:Tbl} {N tag0 tag:Nat} {am:Nat→Bool} {ab ob2:Bool} {st:St} {k:St→Prop} {q:Exit→St→Prop} {kr:D→zaw→Nat→Prop} {dst:Option Tmp} {ops:Array Oper} {os:List Oper} {o:Oper} {x y z f a:Operand} {t u:TypeId} {args:Array Operand} {ts:Array TypeId}
@[go_sem] theorem zKF {r:Option (D×Prop)}:@VvK N r st dst ⟨k⟩=@BiK _ r ⟨fun dc=>@zhq (zbd N dst) ⟨@zaA dc.2 ⟨k (st.put dst dc.1)⟩⟩⟩:=(rfl)
@[go_sem] theorem zCV:@XOK P G T N tag0 am st dst (.move x) ⟨k⟩=@zhq (zbd N dst) ⟨k (st.put dst (st.ev G x))⟩:=(rfl)
@[go_sem] theorem zzo:@XOK P G T N tag0 am st dst (.assign x) ⟨k⟩=@zhq (zbd N dst) ⟨k (st.put dst (st.ev G x))⟩:=(rfl)
@[go_sem] theorem zCW:@XOK P G T N tag0 am st dst (.pick x y z) ⟨k⟩=@VvK N (zfI (st.ev G x) (st.ev G y) (st.ev G z)) st dst ⟨k⟩:=(rfl)
@[go_sem] theorem zA5 {ps:Array (Nat×Operand)}:@XOK P G T N tag0 am st dst (.build t ps) ⟨k⟩=@zhq (ps.toList.all fun p=>(st.ev G p.2).known) ⟨@VvK N (zer P t (ps.toList.map fun p=>(p.1,st.ev G p.2))) st dst ⟨k⟩⟩:=(rfl)
@[go_sem] theorem zCT:@XOK P G T N tag0 am st dst (.load t a) ⟨k⟩=@VvK N (zev P st.H t (st.ev G a)) st dst ⟨k⟩:=(rfl)
@[go_sem] theorem zEY:@XOK P G T N tag0 am st dst (.nilCheck x) ⟨k⟩=@VvK N (znq (st.ev G x)) st dst ⟨k⟩:=(rfl)
@[go_sem] theorem zEW {op:BinOp}:@XOK P G T N tag0 am st dst (.binOp op t x y u) ⟨k⟩=@za1 (zdm y) ⟨@zjF P N op t (st.ev G x) st dst ⟨k⟩⟩ ⟨@VvK N (zc6 P op t (st.ev G x) (st.ev G y)) st dst ⟨k⟩⟩:=by
 simp only[XOK,XO,za1,zdA,zjF,VvK]
 cases zdm y<;>simp
@[go_sem] theorem zGw {op:UnOp}:@XOK P G T N tag0 am st dst (.unOp op t x) ⟨k⟩=@VvK N (zxc op (st.ev G x)) st dst ⟨k⟩:=(rfl)
@[go_sem] theorem zCS:@XOK P G T N tag0 am st dst (.convert t u x) ⟨k⟩=@VvK N (zdl P t u (st.ev G x)) st dst ⟨k⟩:=(rfl)
@[go_sem] theorem zGv {g:FuncId}{first caps:Array Operand}:@XOK P G T N tag0 am st dst (.makeFunc (.func g) first caps) ⟨k⟩=@zhq (first.size==0&&zbd N dst) ⟨k (st.put dst (.fn g (caps.toList.map (st.ev G))))⟩:=(rfl)
@[go_sem] theorem zA6 {lo hi mx:Option Operand}:@XOK P G T N tag0 am st dst (.slice t x lo hi mx) ⟨k⟩=@VvK N (zaT P t (st.ev G x) (lo.map (st.ev G)) (hi.map (st.ev G)) (mx.map (st.ev G))) st dst ⟨k⟩:=(rfl)
@[go_sem] theorem zGr {i:Nat}:@XOK P G T N tag0 am st dst (.fieldAddr t x i) ⟨k⟩=@VvK N (zbO P t (st.ev G x) i) st dst ⟨k⟩:=(rfl)
@[go_sem] theorem zGs {i:Nat}:@XOK P G T N tag0 am st dst (.field t x i) ⟨k⟩=@VvK N (zes P t (st.ev G x) i) st dst ⟨k⟩:=(rfl)
@[go_sem] theorem zGt:@XOK P G T N tag0 am st dst (.indexAddr t x y) ⟨k⟩=@VvK N (zbP P t (st.ev G x) (st.ev G y)) st dst ⟨k⟩:=(rfl)
@[go_sem] theorem zGu:@XOK P G T N tag0 am st dst (.index t x y) ⟨k⟩=@VvK N (zeu P t (st.ev G x) (st.ev G y)) st dst ⟨k⟩:=(rfl)
@[go_sem] theorem zGq {i:Nat}:@XOK P G T N tag0 am st dst (.extract x i) ⟨k⟩=@VvK N (zc7 (st.ev G x) i) st dst ⟨k⟩:=(rfl)
@[go_sem] theorem zCR {c:Call}:@XOK P G T N tag0 am st dst (.call c) ⟨k⟩=@zfy P G T N (tag0+dst.getD 0) (am (dst.getD 0)) (am (2000000+dst.getD 0)) c.args c.argTypes st dst c.callee ⟨k⟩:=(rfl)
@[go_sem] theorem zA4:@XOK P G T N tag0 am st dst (.alloc t) ⟨k⟩=@BiK _ (zaj P t) ⟨fun ti=>@zhq (zbd N dst) ⟨k (st.new (tag0+dst.getD 0,st.n) ⟨ti.zero,true,false⟩ dst (.ptr (tag0+dst.getD 0,st.n) 0))⟩⟩:=(rfl)
@[go_sem] theorem zEX:@XOK P G T N tag0 am st dst (.box t x) ⟨k⟩=@zhq (zbd N dst&&(st.ev G x).known) ⟨k (st.new (tag0+dst.getD 0,st.n) ⟨(st.ev G x).cs,true,false⟩ dst (.ptr (tag0+dst.getD 0,st.n) 0))⟩:=(rfl)
@[go_sem] theorem zCU:@XOK P G T N tag0 am st dst (.makeSlice t x y) ⟨k⟩=@BiK _ (zav P t) ⟨fun te=>@BiK _ (znI (st.ev G x)) ⟨fun n=>@BiK _ (znI (st.ev G y)) ⟨fun m=>@zhq (zbd N dst) ⟨@zaA (m=n∧0≤n∧n.toNat≤zbr∧te.bytes*n≤2^48) ⟨k (st.new (tag0+dst.getD 0,st.n) ⟨(List.range (n.toNat*te.size)).map fun j=>te.zero.getD (j % te.size) .junk,false,false⟩ dst (.arr (tag0+dst.getD 0,st.n) te.size 0 n.toNat))⟩⟩⟩⟩⟩:=(rfl)
@[go_sem] theorem zGp {n:Nat}{ps:Array (Nat×Operand)}:@XOK P G T N tag0 am st dst (.buildSlice t n ps) ⟨k⟩=@za1 (am (dst.getD 0)) ⟨@BiK _ (zav P t) ⟨fun te=>@zhq (zbd N dst&&ps.toList.all fun p=>zvY te.size (st.ev G p.2)) ⟨@zaA (ps.toList.map (·.1)=List.range n∧n≤2^24∧n*te.size≤2^24) ⟨k (st.new (tag0+dst.getD 0,st.n) ⟨ps.toList.flatMap fun p=>(st.ev G p.2).cs,false,false⟩ dst (.arr (tag0+dst.getD 0,st.n) te.size 0 n))⟩⟩⟩⟩ ⟨@VvK N (zcc P t n (ps.toList.map (·.1)) (ps.toList.map fun p=>st.ev G p.2)) st dst ⟨k⟩⟩:=by
 simp only[XOK,XO,za1,zdA,VvK,zk6,BiK,zhq,zaA]
 cases am (dst.getD 0)<;>simp
@[go_sem] theorem zA7:@XOK P G T N tag0 am st dst (.store t a x) ⟨k⟩=@BiK _ (zaj P t) ⟨fun ti=>@BiK _ (zvn (st.ev G a)) ⟨fun p=>@BiK _ (st.H p.1) ⟨fun o=>@zaA (dst=none∧o.virt=false∧(st.ev G x).known=true∧(st.ev G x).cs.all zcf=true∧(st.ev G x).cs.length=ti.size∧p.2+ti.size≤o.cells.length) ⟨k {st with H:=zaI st.H p.1 (some {o with cells:=zdc o.cells p.2 (st.ev G x).cs})}⟩⟩⟩⟩:=(rfl)
@[go_sem] theorem zD5:@zfy P G T N tag ab ob2 args ts st dst (.value f) ⟨k⟩=@BiK _ (zAi (st.ev G f)) ⟨fun gc=>@ziW P G N gc.1 (args.toList.map (st.ev G)++gc.2) st dst (T gc.1) ⟨k⟩⟩:=(rfl)
@[go_sem] theorem zD1:@zfy P G T N tag ab ob2 args ts st dst (.builtin .append) ⟨k⟩=@zpv P G N tag ab ob2 args.toList ts.toList st dst ⟨k⟩:=(rfl)
@[go_sem] theorem zD2:@zfy P G T N tag ab ob2 args ts st dst (.builtin .len) ⟨k⟩=@VvK N (zaY P .len ts (args.toList.map (st.ev G))) st dst ⟨k⟩:=(rfl)
@[go_sem] theorem zD3:@zfy P G T N tag ab ob2 args ts st dst (.builtin .max) ⟨k⟩=@VvK N (zaY P .max ts (args.toList.map (st.ev G))) st dst ⟨k⟩:=(rfl)
@[go_sem] theorem zD4:@zfy P G T N tag ab ob2 args ts st dst (.builtin .min) ⟨k⟩=@VvK N (zaY P .min ts (args.toList.map (st.ev G))) st dst ⟨k⟩:=(rfl)
@[go_sem] theorem zDW:@zpv P G N tag true ob2 [x,y] [t,u] st dst ⟨k⟩=@BiK _ (zav P t) ⟨fun te=>@BiK _ (zaj P u) ⟨fun ui=>@zhq (zbd N dst&&ui.isSlice) ⟨@zhu te tag ob2 (st.ev G y) (st.ev G x) st dst ⟨k⟩⟩⟩⟩:=(rfl)
@[go_sem] theorem zAy {te:TI}{d:D}{id:Id}{es:Nat}{xs:List FD}:@zhu te tag ob2 d (.ow id es xs) st dst ⟨k⟩=@BiK _ (ztZ st.H te d) ⟨fun yc=>@BiK _ (st.H id) ⟨fun _=>@zaA (es=te.size∧zbB xs te.size∧yc.2∧(zaf yc.1).all zcf=true∧fits (xs.length+yc.1.length) te.bytes)
   ⟨k (({st with H:=zaI st.H id none}:St).new (tag,st.n) tok dst (.ow (tag,st.n) te.size (xs++yc.1)))⟩⟩⟩:=(rfl)
@[go_sem] theorem zxE {te:TI}{d:D}{xs:List FD}:@zhu te tag ob2 d (.full xs) st dst ⟨k⟩=@za1 ob2 ⟨@BiK _ (ztZ st.H te d) ⟨fun yc=>@zaA (zbB xs te.size∧yc.2∧fits (xs.length+yc.1.length) te.bytes) ⟨k (st.new (tag,st.n) tok dst (.ow (tag,st.n) te.size (xs++yc.1)))⟩⟩⟩
   ⟨@BiK _ (zbG st.H te d) ⟨fun s=>@zht te s tag st dst (.full xs) ⟨k⟩⟩⟩:=(rfl)
@[go_sem] theorem zzl {H:zaw}{te:TI}{id:Id}{es b len:Nat}:ztZ H te (.arr id es b len)=@obK _ _ (H id) ⟨fun o=>@obK _ _ (zvT ((o.cells.drop b).take (len*te.size))) ⟨fun ys=>some (ys,te.size=1∧es=te.size∧b+len*te.size≤o.cells.length)⟩⟩:=(rfl)
@[go_sem] theorem zAY {H:zaw}{te:TI}{ys:List FD}:ztZ H te (.fz (.sl ys))=some (ys,zbB ys te.size):=(rfl)
@[go_sem] theorem zxR {H:zaw}{te:TI}{ys:List FD}:ztZ H te (.full ys)=some (ys,zbB ys te.size):=(rfl)
@[go_sem] theorem zAX {H:zaw}{te:TI}{id:Id}{es:Nat}{ys:List FD}:ztZ H te (.ow id es ys)=some (ys,zbB ys te.size):=(rfl)
@[go_sem] theorem zy3 {te:TI}{d:D}{id:Id}{es b len:Nat}:@zhu te tag ob2 d (.arr id es b len) st dst ⟨k⟩=@BiK _ (zbG st.H te d) ⟨fun s=>@zht te s tag st dst (.arr id es b len) ⟨k⟩⟩:=(rfl)
@[go_sem] theorem zDV:@zpv P G N tag false ob2 [x,y] [t,u] st dst ⟨k⟩=@VvK N (zeP P t u (st.ev G x) (st.ev G y)) st dst ⟨k⟩:=(rfl)
@[go_sem] theorem zEV {g:FuncId}{ds:List D}{tf:List FD→Option (D×Prop)}:@ziW P G N g ds st dst (some tf) ⟨k⟩=@BiK _ (D.toFDs ds) ⟨fun xs=>@VvK N (tf xs) st dst ⟨k⟩⟩:=(rfl)
@[go_sem] theorem zEU {g:FuncId}{ds:List D}:@ziW P G N g ds st dst none ⟨k⟩=@zhq (zbd N dst) ⟨@zaV P G g ds st.H st.n ⟨fun d H n=>k (({st with H:=H,n:=n}:St).put dst d)⟩⟩:=(rfl)
@[go_sem] theorem zFM {te:TI}{s:Nat×List D×Prop}{xs:List FD}:@zht te s tag st dst (.full xs) ⟨k⟩=@zaA (s.2.2∧zbB xs te.size∧0<te.size∧(0<s.1∨xs=[])∧fits (xs.length+s.1) te.bytes) ⟨k (st.new (tag,st.n) ⟨zaf xs++s.2.1,false,(zaf xs++s.2.1).isEmpty⟩ dst (.arr (tag,st.n) te.size 0 (xs.length+s.1)))⟩:=(rfl)
@[go_sem] theorem zFL {te:TI}{s:Nat×List D×Prop}{id:Id}{es b len:Nat}:@zht te s tag st dst (.arr id es b len) ⟨k⟩=@BiK _ (st.H id) ⟨fun o=>@zaA (s.2.2∧es=te.size∧b+len*te.size≤o.cells.length∧s.2.1.all zcf=true∧0<te.size∧fits (len+s.1) te.bytes) ⟨k (({st with H:=zaI st.H id none}:St).new (tag,st.n) ⟨(o.cells.drop b).take (len*te.size)++s.2.1,false,o.virt&&((o.cells.drop b).take (len*te.size)++s.2.1).isEmpty⟩ dst (.arr (tag,st.n) te.size 0 (len+s.1)))⟩⟩:=(rfl)
@[go_sem] theorem zCO:@zd2 P G T N tag0 am ops [] st ⟨k⟩=k st:=(rfl)
@[go_sem] theorem zAZ:@zd2 P G T N tag0 am ops (o::os) st ⟨k⟩=@BiK _ (zmZ ops st.fr o.guard) ⟨fun b=>@za1 b ⟨@XOK P G T N tag0 am st o.dst o.op ⟨fun st=>@zd2 P G T N tag0 am ops os st ⟨k⟩⟩⟩ ⟨@zhq (zbd N o.dst) ⟨@zd2 P G T N tag0 am ops os (st.put o.dst (.tup [])) ⟨k⟩⟩⟩⟩:=(rfl)
@[go_sem] theorem zAD:@XCK P G T N tag0 am (.skip) st ⟨q⟩=q .normal st:=(rfl)
@[go_sem] theorem zCf {c d:Code}:@XCK P G T N tag0 am (.seq c d) st ⟨q⟩=@XCK P G T N tag0 am c st ⟨fun e st=>@zwG e st ⟨fun st=>@XCK P G T N tag0 am d st ⟨q⟩⟩ ⟨q⟩⟩:=(rfl)
@[go_sem] theorem zAz {c d:Code}:@XCK P G T N tag0 am (.cond x c d) st ⟨q⟩=@zpH (st.ev G x) ⟨@XCK P G T N tag0 am c st ⟨q⟩⟩ ⟨@XCK P G T N tag0 am d st ⟨q⟩⟩:=(rfl)
@[go_sem] theorem zy4 {i:Nat}{c:Code}:@XCK P G T N tag0 am (.block i c) st ⟨q⟩=@XCK P G T N tag0 am c st ⟨fun e st=>@zfA i e st ⟨q⟩⟩:=(rfl)
@[go_sem] theorem zAB {i:Nat}:@XCK P G T N tag0 am (.exit i) st ⟨q⟩=q (.exit i) st:=(rfl)
@[go_sem] theorem zCe:@XCK P G T N tag0 am (.ret) st ⟨q⟩=q .ret st:=(rfl)
@[go_sem] theorem zxF {i:Nat}:@XCK P G T N tag0 am (.region i ops false) st ⟨q⟩=@zd2 P G T N tag0 am ops ops.toList st ⟨q .normal⟩:=(rfl)
@[go_sem] theorem zAA {i:Nat}:@XCK P G T N tag0 am (.region i ops true) st ⟨q⟩=@za1 (am (1000000+i)) ⟨@WK P G N (.region i ops true) st ⟨q⟩⟩ ⟨@zd2 P G T N tag0 am ops ops.toList st ⟨q .normal⟩⟩:=(rfl)
@[go_sem] theorem zAC {c:Code}:@XCK P G T N tag0 am (.loop c) st ⟨q⟩=@WK P G N (.loop c) st ⟨q⟩:=(rfl)
@[go_sem] theorem zD8 {b:Bool}{p1 p2:Prop}:@zpH (.fz (.b b)) ⟨p1⟩ ⟨p2⟩=@za1 b ⟨p1⟩ ⟨p2⟩:=(rfl)
@[go_sem] theorem zGi:@zwG .normal st ⟨k⟩ ⟨q⟩=k st:=(rfl)
@[go_sem] theorem zGh {i:Nat}:@zwG (.exit i) st ⟨k⟩ ⟨q⟩=q (.exit i) st:=(rfl)
@[go_sem] theorem zGj:@zwG .ret st ⟨k⟩ ⟨q⟩=q .ret st:=(rfl)
@[go_sem] theorem zFN {i j:Nat}:@zfA j (.exit i) st ⟨q⟩=@za1 (i==j) ⟨q .normal st⟩ ⟨q (.exit i) st⟩:=by
 simp only[zfA,zhA,za1,zdA]
 by_cases h:i=j<;>simp[h]
@[go_sem] theorem zFO {j:Nat}:@zfA j .normal st ⟨q⟩=q .normal st:=(rfl)
@[go_sem] theorem zFP {j:Nat}:@zfA j .ret st ⟨q⟩=q .ret st:=(rfl)
@[go_sem] theorem zGf {fn:Func}:@zwQ P fn .normal st ⟨kr⟩=@BiK _ (zd0 P st fn.results.toList) ⟨fun dc=>@zaA dc.2 ⟨kr (one dc.1) st.H st.n⟩⟩:=zrm
@[go_sem] theorem zGg {fn:Func}:@zwQ P fn .ret st ⟨kr⟩=@BiK _ (zd0 P st fn.results.toList) ⟨fun dc=>@zaA dc.2 ⟨kr (one dc.1) st.H st.n⟩⟩:=zrm
attribute [go_sem] zta zqF ztb
@[go_sem] theorem zGe {r:ResultVar}{rs:List ResultVar}:zd0 P st (r::rs)=@obK _ _ (zkF P st r) ⟨fun a=>@obK _ _ (zd0 P st rs) ⟨fun b=>some (a.1::b.1,a.2∧b.2)⟩⟩:=zqG
@[go_sem] theorem zGc {d:D}:one [d]=d:=rfl
@[go_sem] theorem zGb:one []= .tup []:=rfl
@[go_sem] theorem zGd {d e:D}{ds:List D}:one (d::e::ds)= .tup (d::e::ds):=rfl
@[go_sem] theorem zKI {fr:Nat→D}:zmZ ops fr none=some true:=rfl
@[go_sem] theorem zKJ {fr:Nat→D}{jw:Nat×Bool}:zmZ ops fr (some jw)=@obK _ _ ((ops[jw.1]?).bind (·.dst)) ⟨fun t=>gv2 jw.2 (fr t)⟩:=rfl
@[go_sem] theorem zKG {b c:Bool}:gv2 c (.fz (.b b))=some (b==c):=rfl
@[go_sem] theorem zKH {c:Bool}:gv2 c (.tup [])=some false:=rfl
@[go_sem] theorem zxI {g:Nat}:St.ev G st (.global g)=zxu (G g):=rfl
end
section
variable {P:Program} {xs ys:List FD} {ds es':List D} {id:Id} {k es s len f i off size n':Nat} {x:FD} {b c:Bool} {n m:Int} {kd kd':IntKind} {l l':List UInt8} {H:zaw} {ti:TI} {agg:Bool} {p q:Prop} {caps:List D} {d e:D} {t u:TypeId} {op:BinOp} {lo hi:Option D}
@[go_sem] theorem zCz:zdm (.tmp k)=false:=rfl
@[go_sem] theorem zCy:zdm (.const (.int kd n))=false:=rfl
@[go_sem] theorem zF6:zdm (.const (.bool b))=false:=rfl
@[go_sem] theorem zGa {a:ByteArray}:zdm (.const (.string a))=false:=rfl
@[go_sem] theorem zF8:zdm (.global k)=false:=rfl
@[go_sem] theorem zF7:zdm (.func k)=false:=rfl
@[go_sem] theorem zF9:zdm (.const (.slice none 0 0))=true:=rfl
@[go_sem] theorem zEB:zdm (.const .nilFunc)=false:=rfl
@[go_sem] theorem zEE:zvn (.ptr id k)=some (id,k):=rfl
@[go_sem] theorem zF3:zAi (.fn f caps)=some (f,caps):=rfl
@[go_sem] theorem zEv:znI (.fz (.i kd n))=some n:=rfl
@[go_sem] theorem zCo:zev P H t d=@obK _ _ (zaj P t) ⟨fun ti=>zzq ti H d⟩:=zhQ
@[go_sem] theorem zEw:zzq ti H (.rp xs)=some (if ti.agg then .fz (.agg (xs.take ti.size))else .fz (xs.getD 0 .nilf),ti.size≤xs.length∧(ti.agg=false→ti.size=1)):=rfl
@[go_sem] theorem zCv:zzq ti H (.ptr id k)=@obK _ _ (H id) ⟨fun o=>some (if ti.agg then .agg ((o.cells.drop k).take ti.size)else o.cells.getD k .junk,k+ti.size≤o.cells.length∧o.virt=false∧(ti.agg=false→ti.size=1))⟩:=rfl
@[go_sem] theorem zFW:zbO P t d i=@obK _ _ (zaj P t) ⟨fun ti=>@obK _ _ (fieldsOf ti.und i) ⟨fun f=>@obK _ _ (zaj P f.2) ⟨fun fi=>faD f.1 fi.size d⟩⟩⟩:=ziH
@[go_sem] theorem zCq {fs:List (Nat×TypeId)}:fieldsOf (.struct fs) i=fs[i]?:=rfl
@[go_sem] theorem zCp:faD off size (.ptr id k)=some (.ptr id (k+off),size≠0):=rfl
@[go_sem] theorem zEf:faD off size (.rp xs)=some (.rp (xs.drop off),size≠0):=rfl
@[go_sem] theorem zIt:zes P t d i=@obK _ _ (zaj P t) ⟨fun ti=>@obK _ _ (fieldsOf ti.und i) ⟨fun f=>@obK _ _ (zaj P f.2) ⟨fun fi=>fD f.1 fi.size fi.agg d⟩⟩⟩:=zp3
@[go_sem] theorem zEe:fD off size agg (.agg ds)=some (if agg then .agg ((ds.drop off).take size)else ds.getD off .junk,off+size≤ds.length∧(agg=false→size=1)):=rfl
@[go_sem] theorem zF1:fD off size agg (.fz (.agg xs))=some (if agg then .fz (.agg ((xs.drop off).take size))else .fz (xs.getD off .nilf),off+size≤xs.length∧(agg=false→size=1)):=rfl
@[go_sem] theorem zCn:zav P t=@obK _ _ (zaj P t) ⟨fun ti=>@obK _ _ (zr3 ti.und) ⟨fun e=>zaj P e⟩⟩:=zr4
@[go_sem] theorem zCm:zr3 (.slice t)=some t:=rfl
@[go_sem] theorem zFX:zbP P t d e=@obK _ _ (zav P t) ⟨fun te=>iaD te.size d e⟩:=ziJ
@[go_sem] theorem zEu:iaD size (.fz (.sl xs)) (.fz (.i kd n))=some (.rp (xs.getD n.toNat .nilf).cells,0≤n∧n<xs.length∧(xs.getD n.toNat .nilf).cells.length=size):=rfl
@[go_sem] theorem zAP:iaD size (.full xs) (.fz (.i kd n))=some (.rp (xs.getD n.toNat .nilf).cells,0≤n∧n<xs.length∧(xs.getD n.toNat .nilf).cells.length=size):=rfl
@[go_sem] theorem zEt:iaD size (.ow id es xs) (.fz (.i kd n))=some (.rp (xs.getD n.toNat .nilf).cells,0≤n∧n<xs.length∧(xs.getD n.toNat .nilf).cells.length=size):=rfl
@[go_sem] theorem zCu:iaD size (.arr id es s len) (.fz (.i kd n))=some (.ptr id (s+n.toNat*es),0≤n∧n<len∧es=size):=rfl
@[go_sem] theorem zFY:zeu P t (.fz (.s l)) (.fz (.i kd n))=@obK _ _ (zaj P t) ⟨fun ti=>if ti.isStr then some (.fz (.i .u8 ((l.getD n.toNat 0).toNat:Int)),0≤n∧n<l.length)else none⟩:=zp6
@[go_sem] theorem zEd:zlK P t d=@obK _ _ (zaj P t) ⟨fun ti=>zxT ti.isStr ti.isSlice d⟩:=zuH
@[go_sem] theorem zEx:zxT true c (.fz (.s l))=some (.fz (.i .i64 l.length),True):=rfl
@[go_sem] theorem zCx:zxT b true (.fz (.sl xs))=some (.fz (.i .i64 xs.length),True):=rfl
@[go_sem] theorem zzc:zxT b true (.full xs)=some (.fz (.i .i64 xs.length),True):=rfl
@[go_sem] theorem zCw:zxT b true (.ow id es xs)=some (.fz (.i .i64 xs.length),True):=rfl
@[go_sem] theorem zAQ:zxT b true (.arr id es s len)=some (.fz (.i .i64 len),True):=rfl
@[go_sem] theorem zDX {ts:Array TypeId}:zaY P .len ts [d]=@obK _ _ ts[0]? ⟨fun t=>zlK P t d⟩:=zjY
@[go_sem] theorem zDY {ts:Array TypeId}:zaY P .max ts [.fz (.i kd n),.fz (.i kd' m)]=some (.fz (.i kd (max n m)),kd=kd'):=zjZ
@[go_sem] theorem zDZ {ts:Array TypeId}:zaY P .min ts [.fz (.i kd n),.fz (.i kd' m)]=some (.fz (.i kd (min n m)),kd=kd'):=zj0
@[go_sem] theorem zCN:zbG H ti (.fz (.sl xs))=some (xs.length,zaf xs,zbB xs ti.size):=rfl
@[go_sem] theorem zzk:zbG H ti (.full xs)=some (xs.length,zaf xs,zbB xs ti.size):=rfl
@[go_sem] theorem zCM:zbG H ti (.ow id es xs)=some (xs.length,zaf xs,zbB xs ti.size):=rfl
@[go_sem] theorem zEP:zaT P t (.ow id es xs) lo hi none=@obK _ _ (zav P t) ⟨fun te=>@obK _ _ (zbL lo) ⟨fun a=>@obK _ _ (za6 xs.length hi) ⟨fun b=>some (.fz (.sl (zbS xs a b)),0≤a∧a≤b∧b≤xs.length∧(a=0∨a=b∨(xs.getD a.toNat .nilf).cells.length=te.size))⟩⟩⟩:=zp9
@[go_sem] theorem zCJ:zaT P t (.ow id es xs) lo (some d) (some (.fz (.i kd m)))=@obK _ _ (zav P t) ⟨fun te=>@obK _ _ (zbL lo) ⟨fun a=>@obK _ _ (za6 xs.length (some d)) ⟨fun b=>some (.full (zbS xs a b),0≤a∧a≤b∧b≤xs.length∧m=b∧(a=0∨a=b∨(xs.getD a.toNat .nilf).cells.length=te.size))⟩⟩⟩:=zns
@[go_sem] theorem zCL:zaT P t (.fz (.s l)) lo hi none=@obK _ _ (zaj P t) ⟨fun ti=>@obK _ _ (zbL lo) ⟨fun a=>@obK _ _ (za6 l.length hi) ⟨fun b=>if ti.isStr then some (.fz (.s ((l.take b.toNat).drop a.toNat)),0≤a∧a≤b∧b≤l.length)else none⟩⟩⟩:=znu
@[go_sem] theorem zEQ:zaT P t (.fz (.sl xs)) lo hi none=@obK _ _ (zav P t) ⟨fun te=>@obK _ _ (zbL lo) ⟨fun a=>@obK _ _ (za6 xs.length hi) ⟨fun b=>some (.fz (.sl (zbS xs a b)),0≤a∧a≤b∧b≤xs.length∧(a=0∨a=b∨(xs.getD a.toNat .nilf).cells.length=te.size))⟩⟩⟩:=zqa
@[go_sem] theorem zCK:zaT P t (.fz (.sl xs)) lo (some d) (some (.fz (.i kd m)))=@obK _ _ (zav P t) ⟨fun te=>@obK _ _ (zbL lo) ⟨fun a=>@obK _ _ (za6 xs.length (some d)) ⟨fun b=>some (.full (zbS xs a b),0≤a∧a≤b∧b≤xs.length∧m=b∧(a=0∨a=b∨(xs.getD a.toNat .nilf).cells.length=te.size))⟩⟩⟩:=znt
@[go_sem] theorem zAU:zaT P t (.full xs) lo none none=@obK _ _ (zav P t) ⟨fun te=>@obK _ _ (zbL lo) ⟨fun a=>some (.full (zbS xs a xs.length),0≤a∧a≤xs.length∧(a=0∨a=xs.length∨(xs.getD a.toNat .nilf).cells.length=te.size))⟩⟩:=zlM
@[go_sem] theorem zzj:zaT P t (.full xs) lo (some d) none=@obK _ _ (zav P t) ⟨fun te=>@obK _ _ (zbL lo) ⟨fun a=>@obK _ _ (za6 xs.length (some d)) ⟨fun b=>some (.fz (.sl (zbS xs a b)),0≤a∧a≤b∧b≤xs.length∧(a=0∨a=b∨(xs.getD a.toNat .nilf).cells.length=te.size))⟩⟩⟩:=zj2
@[go_sem] theorem zzi:zaT P t (.full xs) lo (some d) (some (.fz (.i kd m)))=@obK _ _ (zav P t) ⟨fun te=>@obK _ _ (zbL lo) ⟨fun a=>@obK _ _ (za6 xs.length (some d)) ⟨fun b=>some (.full (zbS xs a b),0≤a∧a≤b∧b≤xs.length∧m=b∧(a=0∨a=b∨(xs.getD a.toNat .nilf).cells.length=te.size))⟩⟩⟩:=zj1
@[go_sem] theorem zCI:zaT P t (.arr id es s len) lo hi none=@obK _ _ (zav P t) ⟨fun te=>@obK _ _ (zbL lo) ⟨fun a=>@obK _ _ (za6 len hi) ⟨fun b=>some (.arr id es (s+a.toNat*es) (b-a).toNat,0≤a∧a≤b∧b≤len∧es=te.size)⟩⟩⟩:=znr
@[go_sem] theorem zIx:zbL none=some 0:=rfl
@[go_sem] theorem zIy:zbL (some (.fz (.i kd n)))=some n:=rfl
@[go_sem] theorem zIv:za6 k none=some (k:Int):=rfl
@[go_sem] theorem zIw:za6 k (some (.fz (.i kd n)))=some n:=rfl
attribute [go_sem] zuA zuC
@[go_sem] theorem zCb:zc6 P op t (.fz (.b b)) (.fz (.b c))=@obK _ _ (zaj P t) ⟨fun ti=>if ti.isBool then zpF op (b==c) True else none⟩:=zux
@[go_sem] theorem zCd:zc6 P op t (.fz (.agg xs)) (.fz (.agg ys))=@obK _ _ (zaj P t) ⟨fun ti=>@obK _ _ (zbf ti.fund xs ys) ⟨fun rc=>if ti.eqok then zpF op rc.1 rc.2 else none⟩⟩:=zuz
@[go_sem] theorem zCa:zc6 P op t (.agg ds) (.fz (.agg ys))=@obK _ _ (D.toFDs ds) ⟨fun xs=>@obK _ _ (zaj P t) ⟨fun ti=>@obK _ _ (zbf ti.fund xs ys) ⟨fun rc=>if ti.eqok then zpF op rc.1 rc.2 else none⟩⟩⟩:=zuw
@[go_sem] theorem zCc:zc6 P op t (.fz (.agg xs)) (.agg ds)=@obK _ _ (D.toFDs ds) ⟨fun ys=>@obK _ _ (zaj P t) ⟨fun ti=>@obK _ _ (zbf ti.fund xs ys) ⟨fun rc=>if ti.eqok then zpF op rc.1 rc.2 else none⟩⟩⟩:=zuy
@[go_sem] theorem zB9:zc6 P op t (.agg ds) (.agg es')=@obK _ _ (D.toFDs ds) ⟨fun xs=>@obK _ _ (D.toFDs es') ⟨fun ys=>@obK _ _ (zaj P t) ⟨fun ti=>@obK _ _ (zbf ti.fund xs ys) ⟨fun rc=>if ti.eqok then zpF op rc.1 rc.2 else none⟩⟩⟩⟩:=zuv
@[go_sem] theorem zD6:zpF .eql b p=some (.fz (.b b),p):=rfl
@[go_sem] theorem zD7:zpF .neq b p=some (.fz (.b (!b)),p):=rfl
@[go_sem] theorem zEg:zdi .add kd kd' n m=some (.fz (.i kd (n+m)),kd=kd'∧inK kd (n+m)):=rfl
@[go_sem] theorem zEs:zdi .sub kd kd' n m=some (.fz (.i kd (n-m)),kd=kd'∧inK kd (n-m)):=rfl
@[go_sem] theorem zEn:zdi .mul kd kd' n m=some (.fz (.i kd (n*m)),kd=kd'∧inK kd (n*m)):=rfl
@[go_sem] theorem zEp:zdi .quo kd kd' n m=some (.fz (.i kd (n / m)),kd=kd'∧0≤n∧0<m):=rfl
@[go_sem] theorem zEq:zdi .rem kd kd' n m=some (.fz (.i kd (n % m)),kd=kd'∧0≤n∧0<m):=rfl
@[go_sem] theorem zEi:zdi .eql kd kd' n m=some (.fz (.b (decide (n=m))),kd=kd'):=by
 have:(n==m)=decide (n=m):=by by_cases h:n=m<;>simp[h]
 simp only[zdi,this]
@[go_sem] theorem zEo:zdi .neq kd kd' n m=some (.fz (.b (!decide (n=m))),kd=kd'):=by
 have:(n !=m)= !decide (n=m):=by by_cases h:n=m<;>simp[h]
 simp only[zdi,this]
@[go_sem] theorem zEm:zdi .lss kd kd' n m=some (.fz (.b (decide (n<m))),kd=kd'):=rfl
@[go_sem] theorem zEl:zdi .leq kd kd' n m=some (.fz (.b (decide (n≤m))),kd=kd'):=rfl
@[go_sem] theorem zEk:zdi .gtr kd kd' n m=some (.fz (.b (decide (m<n))),kd=kd'):=rfl
@[go_sem] theorem zEj:zdi .geq kd kd' n m=some (.fz (.b (decide (m≤n))),kd=kd'):=rfl
@[go_sem] theorem zEr:zdi .shr kd kd' n m=some (.fz (.i kd (n / 2^m.toNat)),0≤n∧0≤m∧m.toNat≤kd.bits):=rfl
@[go_sem] theorem zEG:zgh .add l l'=some (.fz (.s (l++l')),l.length+l'.length≤zbr):=rfl
@[go_sem] theorem zEL:zgh .lss l l'=some (.fz (.b (Op.bytesLess l l')),True):=rfl
@[go_sem] theorem zEK:zgh .leq l l'=some (.fz (.b (Op.bytesLess l l'||l==l')),True):=rfl
@[go_sem] theorem zEJ:zgh .gtr l l'=some (.fz (.b (!(Op.bytesLess l l'||l==l'))),True):=rfl
@[go_sem] theorem zEI:zgh .geq l l'=some (.fz (.b (!Op.bytesLess l l')),True):=rfl
@[go_sem] theorem zEH:zgh .eql l l'=some (.fz (.b (decide (l=l'))),True):=by
 have:(l==l')=decide (l=l'):=by by_cases h:l=l'<;>simp[h]
 simp only[zgh,this]
@[go_sem] theorem zEM:zgh .neq l l'=some (.fz (.b (!decide (l=l'))),True):=by
 have:(l==l')=decide (l=l'):=by by_cases h:l=l'<;>simp[h]
 simp only[zgh,this]
@[go_sem] theorem zFT:ze4 .bool (.b b) (.b c)=some (b==c,True):=rfl
@[go_sem] theorem zFU:ze4 (.int kd) (.i kd n) (.i kd m)=some (decide (n=m),True):=by
 have:(n==m)=decide (n=m):=by by_cases h:n=m<;>simp[h]
 simp[ze4,this]
@[go_sem] theorem zFV:ze4 .str (.s l) (.s l')=some (decide (l=l'),True):=by
 have:(l==l')=decide (l=l'):=by by_cases h:l=l'<;>simp[h]
 simp only[ze4,this]
@[go_sem] theorem zAN:zbf [] [] []=some (true,True):=rfl
@[go_sem] theorem zy7 {v:Und}{vs:List Und}{y:FD}:zbf (v::vs) (x::xs) (y::ys)=@obK _ _ (ze4 v x y) ⟨fun a=>@obK _ _ (zbf vs xs ys) ⟨fun b=>some (a.1&&b.1,a.2∧b.2)⟩⟩:=by
 simp only[zbf];unfold obK ob;cases ze4 v x y with
 |none=>rfl
 |some a=>simp only;cases zbf vs xs ys<;>rfl
@[go_sem] theorem zIA:zxc .not (.fz (.b b))=some (.fz (.b (!b)),True):=rfl
@[go_sem] theorem zIz:zxc .neg (.fz (.i kd n))=some (.fz (.i kd (-n)),inK kd (-n)):=rfl
@[go_sem] theorem zCH:zfI (.fz (.b true)) d e=some (d,True):=rfl
@[go_sem] theorem zCG:zfI (.fz (.b false)) d e=some (e,True):=rfl
@[go_sem] theorem zEC:zfI (.fz (.b b)) (.fz (.b true)) (.fz (.b c))=some (.fz (.b (b||c)),True):=by cases b<;>rfl
@[go_sem] theorem zED:zfI (.fz (.b b)) (.fz (.b c)) (.fz (.b false))=some (.fz (.b (b&&c)),True):=by cases b<;>rfl
@[go_sem] theorem zIu:zc7 (.tup ds) i=@obK _ _ ds[i]? ⟨fun d=>some (d,True)⟩:=by simp only[zc7];unfold obK ob;cases ds[i]?<;>rfl
@[go_sem] theorem zCC:znq (.rp xs)=some (.rp xs,True):=rfl
@[go_sem] theorem zAR:znq (.ptr id k)=some (.ptr id k,True):=rfl
@[go_sem] theorem zFR:zdl P t u (.fz (.i kd n))=@obK _ _ (zaj P t) ⟨fun _=>@obK _ _ (zaj P u) ⟨fun ti=>@obK _ _ ti.intK ⟨fun k=>some (.fz (.i k n),inK k n)⟩⟩⟩:=zuE
@[go_sem] theorem zFQ:zdl P t u (.full [.i .u8 n])=@obK _ _ (zaj P t) ⟨fun _=>@obK _ _ (zaj P u) ⟨fun ti=>@obK _ _ (zav P t) ⟨fun te=>@obK _ _ te.intK ⟨fun k=>if k= .u8 then(if ti.isStr then some (.fz (.s [UInt8.ofNat n.toNat]),True)else none)else none⟩⟩⟩⟩:=zuD
@[go_sem] theorem zFS:zdl P t u (.fz (.s l))=@obK _ _ (zaj P t) ⟨fun si=>@obK _ _ (zaj P u) ⟨fun ti=>if si.isStr&&ti.isStr then some (.fz (.s l),True)else none⟩⟩:=zuF
@[go_sem] theorem zwr {us:List Und}:TI.isStr ⟨k,n',ds,.bool,b,c,us⟩=false:=rfl
@[go_sem] theorem ztV {us:List Und}:TI.isSlice ⟨k,n',ds,.bool,b,c,us⟩=false:=rfl
@[go_sem] theorem zu1 {us:List Und}:TI.isBool ⟨k,n',ds,.bool,b,c,us⟩=true:=rfl
@[go_sem] theorem zxL {us:List Und}:TI.isStr ⟨k,n',ds,.str,b,c,us⟩=true:=rfl
@[go_sem] theorem zu5 {us:List Und}:TI.isSlice ⟨k,n',ds,.str,b,c,us⟩=false:=rfl
@[go_sem] theorem zwq {us:List Und}:TI.isBool ⟨k,n',ds,.str,b,c,us⟩=false:=rfl
@[go_sem] theorem zws {us:List Und}:TI.isStr ⟨k,n',ds,.func,b,c,us⟩=false:=rfl
@[go_sem] theorem ztW {us:List Und}:TI.isSlice ⟨k,n',ds,.func,b,c,us⟩=false:=rfl
@[go_sem] theorem zu2 {us:List Und}:TI.isBool ⟨k,n',ds,.func,b,c,us⟩=false:=rfl
@[go_sem] theorem zxK {us:List Und}:TI.isStr ⟨k,n',ds,.ptr,b,c,us⟩=false:=rfl
@[go_sem] theorem zu4 {us:List Und}:TI.isSlice ⟨k,n',ds,.ptr,b,c,us⟩=false:=rfl
@[go_sem] theorem zwp {us:List Und}:TI.isBool ⟨k,n',ds,.ptr,b,c,us⟩=false:=rfl
@[go_sem] theorem zu6 {us:List Und}:TI.isStr ⟨k,n',ds,.other,b,c,us⟩=false:=rfl
@[go_sem] theorem zsz {us:List Und}:TI.isSlice ⟨k,n',ds,.other,b,c,us⟩=false:=rfl
@[go_sem] theorem ztU {us:List Und}:TI.isBool ⟨k,n',ds,.other,b,c,us⟩=false:=rfl
@[go_sem] theorem zu7 {us:List Und}:TI.isStr ⟨k,n',ds,.slice t,b,c,us⟩=false:=rfl
@[go_sem] theorem zsA {us:List Und}:TI.isSlice ⟨k,n',ds,.slice t,b,c,us⟩=true:=rfl
@[go_sem] theorem zxJ {us:List Und}:TI.isStr ⟨k,n',ds,.int kd,b,c,us⟩=false:=rfl
@[go_sem] theorem zu3 {us:List Und}:TI.isSlice ⟨k,n',ds,.int kd,b,c,us⟩=false:=rfl
@[go_sem] theorem ztX {us:List Und}{fs:List (Nat×TypeId)}:TI.isStr ⟨k,n',ds,.struct fs,b,c,us⟩=false:=rfl
@[go_sem] theorem zq6 {us:List Und}{fs:List (Nat×TypeId)}:TI.isSlice ⟨k,n',ds,.struct fs,b,c,us⟩=false:=rfl
@[go_sem] theorem zF5 {us:List Und}:TI.intK ⟨k,n',ds,.int kd,b,c,us⟩=some kd:=rfl
attribute [go_sem] zp5
@[go_sem] theorem zF2 {fs:List (Nat×TypeId)}{rest:List (Nat×D)}:zc8 P fs ds ((i,d)::rest)=@obK _ _ fs[i]? ⟨fun f=>@obK _ _ (zaj P f.2) ⟨fun fi=>@obK _ _ (zc8 P fs (zdc ds f.1 d.cs) rest) ⟨fun r=>some (r.1,(d.cs.length=fi.size∧f.1+fi.size≤ds.length)∧r.2)⟩⟩⟩:=znp
@[go_sem] theorem zD0 {ps:List (Nat×D)}:zer P t ps=@obK _ _ (zaj P t) ⟨fun ti=>@obK _ _ (zho ti.und) ⟨fun fs=>if fs.all (fun p=>(zaj P p.2).isSome)then(@obK _ _ (zc8 P fs ti.zero ps) ⟨fun r=>some (.agg r.1,r.2)⟩)else none⟩⟩:=zp1
@[go_sem] theorem zzm {fs:List (Nat×TypeId)}:zho (.struct fs)=some fs:=rfl
@[go_sem] theorem zGo:zvY n' d=(d.known&&d.cs.length==n'):=rfl
attribute [go_sem] List.flatMap_cons List.flatMap_nil
@[go_sem] theorem zy9:D.known (.fz x)=true:=rfl
@[go_sem] theorem zwt:D.known (.full xs)=true:=rfl
@[go_sem] theorem zAM:D.cs (.full xs)=[.full xs]:=rfl
@[go_sem] theorem zzb:D.known (.rp xs)=true:=rfl
@[go_sem] theorem zEc:D.cs (.rp xs)=[.rp xs]:=rfl
@[go_sem] theorem zxO:D.known (.ptr id k)=true:=rfl
@[go_sem] theorem zCk:D.cs (.ptr id k)=[.ptr id k]:=rfl
@[go_sem] theorem zxN:D.known (.arr id es s len)=true:=rfl
@[go_sem] theorem zCj:D.cs (.arr id es s len)=[.arr id es s len]:=rfl
@[go_sem] theorem zza:D.known (.ow id es xs)=true:=rfl
@[go_sem] theorem zEb:D.cs (.ow id es xs)=[.ow id es xs]:=rfl
@[go_sem] theorem zCE:zcf (.ow id es xs)=true:=rfl
@[go_sem] theorem zEO:zti (.ow id es xs)=some xs:=rfl
@[go_sem] theorem zy8:D.known (.fn f caps)=true:=rfl
@[go_sem] theorem zD9:D.cs (.fn f caps)=[.fn f caps]:=rfl
@[go_sem] theorem zxM:D.known (.agg ds)=true:=rfl
@[go_sem] theorem zxP:D.known (.tup ds)=true:=rfl
@[go_sem] theorem zCl:D.cs (.tup ds)=[.tup ds]:=rfl
@[go_sem] theorem zwu:D.known .junk=false:=rfl
@[go_sem] theorem zCi:D.cs (.agg ds)=ds:=rfl
@[go_sem] theorem zEa:D.cs (.fz x)=x.cells.map .fz:=rfl
@[go_sem] theorem zAJ:FD.cells (.b b)=[.b b]:=rfl
@[go_sem] theorem zze:zcf (.fz (.b b))=true:=rfl
@[go_sem] theorem zAK:FD.cells (.i kd n)=[.i kd n]:=rfl
@[go_sem] theorem zzf:zcf (.fz (.i kd n))=true:=rfl
@[go_sem] theorem zAL:FD.cells (.s l)=[.s l]:=rfl
@[go_sem] theorem zzg:zcf (.fz (.s l))=true:=rfl
@[go_sem] theorem zy6:FD.cells (.sl xs)=[.sl xs]:=rfl
@[go_sem] theorem zxQ:zcf (.fz (.sl xs))=true:=rfl
@[go_sem] theorem zxH:FD.cells (.agg xs)=xs:=rfl
@[go_sem] theorem zwv:zcf (.fz (.agg xs))=false:=rfl
@[go_sem] theorem zwo:FD.cells .nilf=[.nilf]:=rfl
@[go_sem] theorem zzh:zcf (.fz .nilf)=true:=rfl
@[go_sem] theorem zzd:zcf (.full xs)=true:=rfl
@[go_sem] theorem zCF:zcf (.rp xs)=true:=rfl
@[go_sem] theorem zAT:zcf (.ptr id k)=true:=rfl
@[go_sem] theorem zAS:zcf (.arr id es s len)=true:=rfl
@[go_sem] theorem zCD:zcf (.fn f caps)=true:=rfl
@[go_sem] theorem zCr:zlT (.full xs)=some xs:=rfl
@[go_sem] theorem zGk:zti (.fz (.sl xs))=some xs:=rfl
@[go_sem] theorem zEN:zti (.full xs)=some xs:=rfl
@[go_sem] theorem zF0 {is:List Nat}:zcc P t k is ds=@obK _ _ (zav P t) ⟨fun te=>@obK _ _ (D.toFDs ds) ⟨fun xs=>some (.full xs,is=List.range k∧zbB xs te.size∧k*te.size≤2^24∧k≤zbr)⟩⟩:=by
 unfold zcc obK ob
 cases zav P t with
 |none=>rfl
 |some te=>simp only;cases D.toFDs ds<;>rfl
@[go_sem] theorem zFZ:zeP P t u d e=@obK _ _ (zav P t) ⟨fun te=>@obK _ _ (zaj P u) ⟨fun ui=>@obK _ _ (zlT d) ⟨fun xs=>@obK _ _ (zti e) ⟨fun ys=>if ui.isSlice then some (.fz (.sl (xs++ys)),zbB xs te.size∧zbB ys te.size∧fits (xs.length+ys.length) te.bytes)else none⟩⟩⟩⟩:=by
 unfold zeP obK ob
 cases zav P t with
 |none=>rfl
 |some te=>
  cases zaj P u with
  |none=>rfl
  |some ui=>cases zlT d with
   |none=>rfl
   |some xs=>cases zti e<;>rfl
end
theorem zam {P:Program}{G:Nat→List FD}{T:Tbl}(hm:P.follows .mixedOrders=true)(hT:zai P G T){f:FuncId}{fn:Func}{c:Code}{args:List D}{H:zaw}{n:Nat}{R:D→zaw→Nat→Prop}(tag0:Nat)(am:Nat→Bool)(hcall:zal P f)(hf:P.funcs[f]?=some fn)(hb:fn.body=some c){N:Nat}(hN:fn.ntmps=N)(hl:args.length≤N)
  (hd:zbK am T c=true)(h:@XCK P G T N tag0 am c ⟨frL (zgE 0 args),H,n⟩ ⟨fun e st=>@zwQ P fn e st ⟨R⟩⟩):zaH P G f args H n R:=
 zwS hm hT tag0 am hcall hf hb hN hl hd h
def lst:List Nat→Nat→Bool
 |[],_=>false
 |a::l,t=>t==a||lst l t
attribute [go_sem] lst
def hpL:List (Id×Option O)→zaw
 |[],_=>none
 |(i,o)::l,j=>if j=i then o else hpL l j
@[go_sem] theorem zCt {l:List (Id×Option O)}{i:Id}{o:Option O}:zaI (hpL l) i o=hpL ((i,o)::l):=by
 funext j;simp only[zaI,hpL]
@[go_sem] theorem zAO {l:List (Id×Option O)}{i j:Id}{o:Option O}:hpL ((i,o)::l) j=if j=i then o else hpL l j:=rfl
@[go_sem] theorem zCs {j:Id}:hpL [] j=none:=rfl
theorem zft:H0=hpL []:=by funext j;rfl
def zq2 (fr:Nat→D):List (Nat×D)→Prop
 |[]=>True
 |(k,d)::l=>fr k=d∧zq2 fr l
def ze0 (H:zaw):List (Id×Option O)→Prop
 |[]=>True
 |(i,o)::l=>H i=o∧ze0 H l
theorem zq2.get {fr:Nat→D}:∀{l:List (Nat×D)},zq2 fr l→∀t,frL l t=fr t∨frL l t= .junk
 |[],_,_=> .inr rfl
 |(k,d)::l,h,t=>by
  simp only[frL]
  split
  ·rename_i e;subst e;exact .inl h.1.symm
  ·exact zq2.get h.2 t
theorem ze0.get {H:zaw}:∀{l:List (Id×Option O)},ze0 H l→∀id o,hpL l id=some o→H id=some o
 |[],_,_,_,h=>by cases h
 |(i,o')::l,h,id,o,e=>by
  simp only[hpL]at e
  split at e
  ·rename_i e';subst e';rw[h.1];exact e
  ·exact ze0.get h.2 id o e
theorem zau {G:Nat→List FD}{N:Nat}{st:St}{l:List (Nat×D)}{hl:List (Id×Option O)}{n:Nat}(hf:zq2 st.fr l)(hh:ze0 st.H hl)(hn:st.n≤n):zeh G N st ⟨frL l,hpL hl,n⟩:=by
 intro a w L F h
 have hu:∀id,Ub st.n id→Ub n id:=fun id hid=>Nat.lt_of_lt_of_le hid hn
 have e:Ext w L F (Ub st.n) w L F (Ub n):=⟨hu,fun _ _=>rfl,fun _ _ h=>h,fun _ _ _=>rfl,Nat.le_refl _,fun b cs T fr _ h=>⟨cs,T,fr,h,Nat.le_refl _⟩⟩
 refine⟨L,F,⟨⟨h.ok.fb,fun id o ho=>?_,fun id id' o o' h1 h2=>h.ok.inj id id' o o' (hh.get _ _ h1) (hh.get _ _ h2),h.ok.glob⟩,h.size,fun t=>?_,h.nd⟩,hu,fun _ _=>rfl,fun _ _ h=>h,Nat.le_refl _,fun _ _ _=>rfl,fun _ _ _ _=>rfl,
  fun b cs T fr _ h=>⟨cs,T,fr,h,Nat.le_refl _⟩,fun _ _ h=> .inl h,fun b k hb=> .inr ?_,rfl,rfl,rfl,Nat.le_refl _⟩
 ·obtain⟨h1,h2⟩:=h.ok.live id o (hh.get _ _ ho)
  exact⟨hu _ h1,h2.ext e h1 fun hv=>⟨rfl,(zax h2 hv).1⟩⟩
 ·rcases hf.get t with h1|h1
  ·simp only;rw[h1];exact(h.fr t).ext e
  ·simp only;rw[h1];simp[zag]
 ·obtain⟨id,o,h1,h2,h3⟩:=hb
  exact⟨id,o,hh.get _ _ h1,h2,h3⟩
def lsw (ows own:List Nat)(t:Nat):Bool:=lst ows t||lst own t||lst (ows.map (2000000+·)) t
attribute [go_sem] lsw tok
class Ki (ι:Type) where
 st:ι→St
 mu:ι→Nat
def zl2 (G:Nat→List FD)(N:Nat){ι:Type}[I:Ki ι](i:ι)(e:Exit)(st:St)[q:Ke]:Prop:=zBe G N I.st I.mu i q.run e st
def zDe (G:Nat→List FD)(N:Nat){ι:Type}[I:Ki ι](i:ι)(st:St):Prop:=∃i',I.mu i'<I.mu i∧zeh G N st (I.st i')
section
variable {P:Program} {G:Nat→List FD} {T:Tbl} {N tag0:Nat} {am:Nat→Bool} {st:St} {ι:Type} {I:Ki ι} {i:ι} {q:Exit→St→Prop} {j:Nat}
@[go_sem] theorem zEz:@zl2 G N ι I i .normal st ⟨q⟩=@zDe G N ι I i st:=(rfl)
@[go_sem] theorem zEy:@zl2 G N ι I i (.exit j) st ⟨q⟩=q (.exit j) st:=(rfl)
@[go_sem] theorem zEA:@zl2 G N ι I i .ret st ⟨q⟩=q .ret st:=(rfl)
theorem zaJ (hm:P.follows .mixedOrders=true)(hT:zai P G T)(tag0:Nat)(am:Nat→Bool){c:Code}(I:Ki ι)(i:ι)(hd:zbK am T c=true)(h0:zeh G N st (I.st i))
  (round:∀i,@XCK P G T N tag0 am c (I.st i) ⟨fun e st=>@zl2 G N ι I i e st ⟨q⟩⟩):@WK P G N (.loop c) st ⟨q⟩:=
 zv6 I.st I.mu i h0 fun i=>zm6 hm hT c _ _ hd (round i)
end
theorem zaV.i {P:Program}{G:Nat→List FD}{f:FuncId}{args:List D}{H:zaw}{n:Nat}{R:D→zaw→Nat→Prop}(h:zaH P G f args H n R):@zaV P G f args H n ⟨R⟩:=h
theorem WK.i {P:Program}{G:Nat→List FD}{N:Nat}{c:Code}{st:St}{q:Exit→St→Prop}(h:W P G N c q st):@WK P G N c st ⟨q⟩:=h
attribute [irreducible] BiK obK zaA zhq za1 VvK XOK zjF ziW zht zhu zpv zfy zd2 XCK zpH zwG zfA zwQ zaV WK zl2
end Go.Abs
namespace Go.Abs
open Go
inductive FD.Wf:FD→Prop
 |b (x):Wf (.b x)
 |i (k n):k.min≤n→n≤k.max→Wf (.i k n)
 |s (x):x.length≤zbr→Wf (.s x)
 |sl (xs):xs.length≤zbr→(∀x∈xs,Wf x)→Wf (.sl xs)
 |agg (xs):(∀x∈xs,Wf x)→Wf (.agg xs)
 |nilf:Wf .nilf
theorem za2.wf {w:World}{F:Nat→Nat→Prop}{v:Value}{x:FD}(h:za2 w F v x):x.Wf:=by
 induction h with
 |b x=>exact .b x
 |i k n h1 h2=>exact .i k n h1 h2
 |s x h=>
  refine .s _ ?_
  have hs:x.size=x.data.toList.length:=by rw[Array.length_toList];rfl
  rw[←hs];exact h
 |nilf=>exact .nilf
 |sl0 a cap=>exact .sl [] (by simp) (by simp)
 |sl b off cap es xs vs h1 h2 h3 h5 h6 h7 ih=>
  refine .sl xs h2 fun x hx=>?_
  obtain⟨i,hi,rfl⟩:=List.getElem_of_mem hx
  have hc:=h5 i hi
  have e:xs.getD i .nilf=xs[i]:=by simp[List.getD_eq_getElem?_getD,hi]
  rw[e]at hc
  have key:∀j,j<es→(xs[i].cells.getD j .nilf).Wf:=fun j hj=>by have:=ih i j hi hj;rwa [e]at this
  generalize xs[i]=y at*
  cases y with
  |agg ys=>
   refine .agg ys fun z hz=>?_
   obtain⟨j,hj,rfl⟩:=List.getElem_of_mem hz
   have:=key j (by rw[←hc];exact hj)
   simpa[FD.cells,List.getD_eq_getElem?_getD,hj]using this
  |_=>exact key 0 (by rw[←hc];simp[FD.cells])
 |agg vs xs h1 h2 ih=>
  refine .agg xs fun x hx=>?_
  obtain⟨i,hi,rfl⟩:=List.getElem_of_mem hx
  have:=ih i hi
  simpa[List.getD_eq_getElem?_getD,hi]using this
theorem zhd {P:Program}{G:Nat→List FD}{f:FuncId}{xs:List FD}{H:zaw}{n:Nat}{Q:D→zaw→Nat→Prop}(hc:zal P f)(h:(∀x∈xs,x.Wf)→zaH P G f (xs.map .fz) H n Q):zaH P G f (xs.map .fz) H n Q:=by
 refine⟨hc,fun w L F vs hok hvs=>(h ?_).2 w L F vs hok hvs⟩
 intro x hx
 obtain⟨i,hi,rfl⟩:=List.getElem_of_mem hx
 have:=((zah.iff _ _).1 hvs).2 i (by simpa using hi)
 rw[zb6 _ _ hi]at this
 simp only[zag]at this
 have e:xs.getD i .nilf=xs[i]:=by simp[List.getD_eq_getElem?_getD,hi]
 rw[e]at this
 exact this.wf
theorem zd9 {xs:List FD}(h:(FD.sl xs).Wf):xs.length≤zbr:=by cases h;assumption
theorem zoc {xs:List FD}(h:(FD.sl xs).Wf):∀x∈xs,x.Wf:=by cases h;assumption
theorem zc2 {xs:List FD}(h:(FD.agg xs).Wf):∀x∈xs,x.Wf:=by cases h;assumption
theorem zHw {l:List UInt8}(h:(FD.s l).Wf):l.length≤zbr:=by cases h;assumption
theorem zqs {n:Nat}:(0≤(n:Int))=True:=by simp
attribute [go_sem] zqs Int.toNat_natCast Int.ofNat_lt Int.ofNat_le Nat.zero_add Nat.add_zero Nat.mul_one Nat.one_mul Nat.zero_mul Nat.mul_zero Nat.zero_le Nat.le_refl List.length_map Int.natCast_inj
theorem zaa {α:Type}{f:α→FD}{l:List α}{i:Nat}(h:i<l.length):(l.map f).getD i .nilf=f l[i]:=by
 simp[List.getD_eq_getElem?_getD,h]
@[go_sem] theorem zHz:((0:Nat):Int)=0:=rfl
@[go_sem] theorem zHA {n:Nat}:((n+1:Nat):Int)=(n:Int)+1:=rfl
@[go_sem] theorem zDM {n:Nat}:inK .i64 (n:Int)=(n≤9223372036854775807):=by
 simp only[inK,znG,znF,eq_iff_iff];omega
@[go_sem] theorem zB7 {n:Nat}:inK .i64 ((n:Int)+1)=(n+1≤9223372036854775807):=by
 simp only[inK,znG,znF,eq_iff_iff];omega
theorem zt4 {fr:Nat→D}:zq2 fr []=True:=rfl
theorem zrk {fr:Nat→D}{k:Nat}{d:D}{l:List (Nat×D)}:zq2 fr ((k,d)::l)=(fr k=d∧zq2 fr l):=rfl
theorem zt5 {H:zaw}:ze0 H []=True:=rfl
theorem zrl {H:zaw}{i:Id}{o:Option O}{l:List (Id×Option O)}:ze0 H ((i,o)::l)=(H i=o∧ze0 H l):=rfl
attribute [go_sem] zt4 zrk zt5 zrl D.fz.injEq FD.i.injEq FD.b.injEq FD.sl.injEq FD.s.injEq
end Go.Abs
namespace Go.Abs
open Go
structure Str where
 l:List UInt8
 deriving DecidableEq,Inhabited
@[go_sem] theorem zFh {a b:Str}:(a.l=b.l)=(a=b):=by
 cases a;cases b;simp
class Enc (α:Type) where
 enc:α→FD
 dec:FD→α
 dec_enc:∀a,dec (enc a)=a
def enc {α:Type}[Enc α](a:α):FD:=Enc.enc a
def dec {α:Type}[Enc α](x:FD):α:=Enc.dec x
@[go_sem] theorem dec_enc {α:Type}[Enc α](a:α):dec (enc a)=a:=Enc.dec_enc a
instance:Enc Bool:=⟨.b,fun| .b x=>x|_=>false,fun _=>rfl⟩
instance:Enc Int:=⟨.i .i64,fun| .i _ n=>n|_=>0,fun _=>rfl⟩
instance:Enc Str:=⟨fun s=> .s s.l,fun| .s l=>⟨l⟩|_=>⟨[]⟩,fun _=>rfl⟩
instance {α:Type}[Enc α]:Enc (List α):=⟨fun l=> .sl (l.map enc),fun| .sl xs=>xs.map dec|_=>[],fun a=>by
 simp only[List.map_map]
 rw[show(dec∘enc:α→α)=id from funext fun a=>dec_enc a]
 simp⟩
@[go_sem] theorem zus {b:Bool}:enc b= .b b:=rfl
@[go_sem] theorem zDE {n:Int}:enc n= .i .i64 n:=rfl
@[go_sem] theorem zr8 {s:Str}:enc s= .s s.l:=rfl
@[go_sem] theorem zB1 {α:Type}[Enc α]{l:List α}:enc l= .sl (l.map enc):=rfl
@[go_sem] theorem zBW {b:Bool}:dec (.b b)=b:=rfl
@[go_sem] theorem zDB {n:Int}{k:IntKind}:dec (.i k n)=n:=rfl
@[go_sem] theorem zFx {α:Type}[Enc α]{l:List α}:dec (.sl (l.map enc))=l:=dec_enc l
@[go_sem] theorem zHF {l:List UInt8}:dec (α:=Str) (.s l)=⟨l⟩:=rfl
@[go_sem] theorem zyP {α:Type}[Enc α]{xs ys:List FD}:dec (α:=List α) (.sl (xs++ys))=dec (.sl xs)++dec (.sl ys):=List.map_append
@[go_sem] theorem zw9 {α:Type}[Enc α]{x:FD}{xs:List FD}:dec (α:=List α) (.sl (x::xs))=dec x::dec (.sl xs):=rfl
@[go_sem] theorem zyQ {α:Type}[Enc α]:dec (α:=List α) (.sl [])=[]:=rfl
def zbA:Tbl:=fun _=>none
def Tbl.add (T:Tbl)(f:FuncId)(t:List FD→Option (D×Prop)):Tbl:=fun g=>if g=f then some t else T g
@[go_sem] theorem zDo {T:Tbl}{f g:FuncId}{t:List FD→Option (D×Prop)}:T.add f t g=if g=f then some t else T g:=rfl
@[go_sem] theorem zHv {g:FuncId}:zbA g=none:=rfl
section
variable {P:Program} {G:Nat→List FD} {T:Tbl}
theorem zcL:zai P G zbA:=fun _ _ _ _ _ h=>by cases h
theorem zee {f:FuncId}{t:List FD→Option (D×Prop)}(hT:zai P G T)(h:∀xs r c,t xs=some (r,c)→c→zaH P G f (xs.map .fz) H0 0 (fun d _ _=>D.val d=some r)):zai P G (T.add f t):=by
 intro g t' xs r c ht hx hc
 simp only[Tbl.add]at ht
 split at ht
 ·rename_i e;subst e;obtain rfl:=Option.some.inj ht;exact h _ _ _ hx hc
 ·exact hT _ _ _ _ _ ht hx hc
def sp1 {α ρ:Type}[Enc α][Enc ρ](f:α→ρ)(pre:α→Prop):List FD→Option (D×Prop)
 |[x]=>some (.fz (enc (f (dec x))),x=enc (dec (α:=α) x)∧pre (dec x))
 |_=>none
def sp2 {α β ρ:Type}[Enc α][Enc β][Enc ρ](f:α→β→ρ)(pre:α→β→Prop):List FD→Option (D×Prop)
 |[x,y]=>some (.fz (enc (f (dec x) (dec y))),x=enc (dec (α:=α) x)∧y=enc (dec (α:=β) y)∧pre (dec x) (dec y))
 |_=>none
def sp3 {α β γ ρ:Type}[Enc α][Enc β][Enc γ][Enc ρ](f:α→β→γ→ρ)(pre:α→β→γ→Prop):List FD→Option (D×Prop)
 |[x,y,z]=>some (.fz (enc (f (dec x) (dec y) (dec z))),x=enc (dec (α:=α) x)∧y=enc (dec (α:=β) y)∧z=enc (dec (α:=γ) z)∧pre (dec x) (dec y) (dec z))
 |_=>none
@[go_sem] theorem zER {α ρ:Type}[Enc α][Enc ρ]{f:α→ρ}{pre:α→Prop}{x:FD}:sp1 f pre [x]=some (.fz (enc (f (dec x))),x=enc (dec (α:=α) x)∧pre (dec x)):=rfl
@[go_sem] theorem zu8 {α β ρ:Type}[Enc α][Enc β][Enc ρ]{f:α→β→ρ}{pre:α→β→Prop}{x y:FD}:sp2 f pre [x,y]=some (.fz (enc (f (dec x) (dec y))),x=enc (dec (α:=α) x)∧y=enc (dec (α:=β) y)∧pre (dec x) (dec y)):=rfl
@[go_sem] theorem zES {α β γ ρ:Type}[Enc α][Enc β][Enc γ][Enc ρ]{f:α→β→γ→ρ}{pre:α→β→γ→Prop}{x y z:FD}:sp3 f pre [x,y,z]=some (.fz (enc (f (dec x) (dec y) (dec z))),x=enc (dec (α:=α) x)∧y=enc (dec (α:=β) y)∧z=enc (dec (α:=γ) z)∧pre (dec x) (dec y) (dec z)):=rfl
theorem zdd {α ρ:Type}[Enc α][Enc ρ]{f:FuncId}{g:α→ρ}{pre:α→Prop}(hc:zal P f)(hT:zai P G T)
  (h:∀a,pre a→(enc a).Wf→zaH P G f [.fz (enc a)] (hpL []) 0 (fun d _ _=>D.val d=some (.fz (enc (g a))))):zai P G (T.add f (sp1 g pre)):=by
 refine zee hT fun xs r c hx hcc=>?_
 unfold sp1 at hx
 split at hx
 ·rename_i x
  simp only[Option.some.injEq,Prod.mk.injEq]at hx
  obtain⟨rfl,rfl⟩:=hx
  obtain⟨e,hp⟩:=hcc
  refine zhd hc fun hw=>?_
  rw[zft]
  have:=h (dec x) hp (by rw[←e];exact hw x (by simp))
  rw[←e]at this
  exact this
 ·cases hx
theorem zbC {α β ρ:Type}[Enc α][Enc β][Enc ρ]{f:FuncId}{g:α→β→ρ}{pre:α→β→Prop}(hc:zal P f)(hT:zai P G T)
  (h:∀a b,pre a b→(enc a).Wf→(enc b).Wf→zaH P G f [.fz (enc a),.fz (enc b)] (hpL []) 0 (fun d _ _=>D.val d=some (.fz (enc (g a b))))):zai P G (T.add f (sp2 g pre)):=by
 refine zee hT fun xs r c hx hcc=>?_
 unfold sp2 at hx
 split at hx
 ·rename_i x y
  simp only[Option.some.injEq,Prod.mk.injEq]at hx
  obtain⟨rfl,rfl⟩:=hx
  obtain⟨e,e2,hp⟩:=hcc
  refine zhd hc fun hw=>?_
  rw[zft]
  have:=h (dec x) (dec y) hp (by rw[←e];exact hw x (by simp)) (by rw[←e2];exact hw y (by simp))
  rw[←e,←e2]at this
  exact this
 ·cases hx
theorem zmG {α β γ ρ:Type}[Enc α][Enc β][Enc γ][Enc ρ]{f:FuncId}{g:α→β→γ→ρ}{pre:α→β→γ→Prop}(hc:zal P f)(hT:zai P G T)
  (h:∀a b c,pre a b c→(enc a).Wf→(enc b).Wf→(enc c).Wf→zaH P G f [.fz (enc a),.fz (enc b),.fz (enc c)] (hpL []) 0 (fun d _ _=>D.val d=some (.fz (enc (g a b c))))):zai P G (T.add f (sp3 g pre)):=by
 refine zee hT fun xs r c hx hcc=>?_
 unfold sp3 at hx
 split at hx
 ·rename_i x y z
  simp only[Option.some.injEq,Prod.mk.injEq]at hx
  obtain⟨rfl,rfl⟩:=hx
  obtain⟨e,e2,e3,hp⟩:=hcc
  refine zhd hc fun hw=>?_
  rw[zft]
  have:=h (dec x) (dec y) (dec z) hp (by rw[←e];exact hw x (by simp)) (by rw[←e2];exact hw y (by simp)) (by rw[←e3];exact hw z (by simp))
  rw[←e,←e2,←e3]at this
  exact this
 ·cases hx
@[go_sem] theorem zBM {x:FD}:D.val (.fz x)=some (.fz x):=rfl
@[go_sem] theorem zBN {id:Id}{es:Nat}{xs:List FD}:D.val (.ow id es xs)=some (.fz (.sl xs)):=rfl
@[go_sem] theorem zvV {xs:List FD}:D.val (.full xs)=some (.fz (.sl xs)):=rfl
@[go_sem] theorem zFq {ds:List D}:D.val (.tup ds)=(D.toFDs ds).map fun xs=> .tup (xs.map .fz):=rfl
end
end Go.Abs
namespace Go.Abs
open Go
def zv2 (len:Nat)[k:Kn Bool]:Prop:=∀b,(b=true→len=0)→k.run b
theorem zv2.i {len:Nat}{k:Bool→Prop}(h:∀b,(b=true→len=0)→k b):@zv2 len ⟨k⟩:=h
section
variable {P:Program} {N:Nat} {t:TypeId} {x:D} {st:St} {dst:Option Tmp} {k:St→Prop}
theorem zgC {op:BinOp}:@zjF P N op t x st dst ⟨k⟩=zyF P N op t x st dst k:=by unfold zjF;rfl
@[go_sem] theorem zCA:@zjF P N .eql t x st dst ⟨k⟩=@BiK _ (zav P t) ⟨fun _=>@BiK _ (zd6 x) ⟨fun len=>@zhq (zbd N dst) ⟨@zv2 len ⟨fun b=>k (st.put dst (.fz (.b b)))⟩⟩⟩⟩:=by
 rw[zgC]
 unfold zyF BiK Bi zhq Chk zv2
 cases zav P t with
 |none=>rfl
 |some te=>cases zd6 x<;>rfl
@[go_sem] theorem zCB:@zjF P N .neq t x st dst ⟨k⟩=@BiK _ (zav P t) ⟨fun _=>@BiK _ (zd6 x) ⟨fun len=>@zhq (zbd N dst) ⟨@zv2 len ⟨fun b=>k (st.put dst (.fz (.b (!b))))⟩⟩⟩⟩:=by
 rw[zgC]
 unfold zyF BiK Bi zhq Chk zv2
 cases zav P t with
 |none=>rfl
 |some te=>
  cases zd6 x with
  |none=>rfl
  |some len=>
   simp only[eq_iff_iff,and_congr_right_iff]
   intro _
   exact⟨fun h b hb=>h (!b) (by simpa using hb),fun h b hb=>by have:=h (!b) (by simpa using hb);simpa using this⟩
@[go_sem] theorem zIJ {xs:List FD}:zd6 (.fz (.sl xs))=some xs.length:=rfl
@[go_sem] theorem zEZ {xs:List FD}:zd6 (.full xs)=some xs.length:=rfl
@[go_sem] theorem zII {id:Id}{es:Nat}{xs:List FD}:zd6 (.ow id es xs)=some xs.length:=rfl
@[go_sem] theorem zGx {id:Id}{es s len:Nat}:zd6 (.arr id es s len)=some len:=rfl
end
attribute [irreducible] zv2
theorem zdn {α:Type}{f:α→FD}{k:Nat}(h:∀a,(f a).cells.length=k)(l:List α):zbB (l.map f) k:=by
 intro x hx
 obtain⟨a,_,rfl⟩:=List.mem_map.1 hx
 exact h a
@[go_sem] theorem zBc {l:List Str}:zbB (l.map enc) 1=True:=eq_true (zdn (f:=enc) (k:=1) (fun _=>rfl) l)
@[go_sem] theorem zzw {α:Type}[Enc α]{l:List (List α)}:zbB (l.map enc) 1=True:=eq_true (zdn (f:=enc) (k:=1) (fun _=>rfl) l)
@[go_sem] theorem zA9 {l:List Int}:zbB (l.map enc) 1=True:=eq_true (zdn (f:=enc) (k:=1) (fun _=>rfl) l)
@[go_sem] theorem zzs {l:List Bool}:zbB (l.map enc) 1=True:=eq_true (zdn (f:=enc) (k:=1) (fun _=>rfl) l)
@[go_sem] theorem zCY {k:Nat}:zbB [] k=True:=by simp[zbB]
@[go_sem] theorem zA8 {x:FD}{xs:List FD}{k:Nat}:zbB (x::xs) k=(x.cells.length=k∧zbB xs k):=by simp[zbB]
@[go_sem] theorem zCX {xs ys:List FD}{k:Nat}:zbB (xs++ys) k=(zbB xs k∧zbB ys k):=by
 simp only[zbB,List.mem_append,eq_iff_iff]
 exact⟨fun h=>⟨fun x hx=>h x (.inl hx),fun x hx=>h x (.inr hx)⟩,fun h x hx=>hx.elim (h.1 x) (h.2 x)⟩
theorem zfm (k:Nat):∀(ds cells:List D) (j:Nat),(ds.zipIdx j).foldl (fun cs p=>cs.set (k+p.2) p.1) cells=(ds.zipIdx 0).foldl (fun cs p=>cs.set (k+j+p.2) p.1) cells
 |[],_,_=>rfl
 |d::ds,cells,j=>by
  simp only[List.zipIdx_cons,List.foldl_cons,Nat.add_zero,Nat.zero_add]
  rw[zfm k ds _ (j+1),show(fun(cs:List D) (p:D×Nat)=>cs.set (k+j+p.2) p.1)=fun cs p=>cs.set ((k+j)+p.2) p.1 from rfl,zfm (k+j) ds _ 1]
  rfl
@[go_sem] theorem zzC {cells:List D}{k:Nat}{d:D}{ds:List D}:zdc cells k (d::ds)=zdc (cells.set k d) (k+1) ds:=by
 unfold zdc
 simp only[List.zipIdx_cons,List.foldl_cons,Nat.add_zero,Nat.zero_add]
 rw[zfm k ds _ 1]
@[go_sem] theorem zBx {cells:List D}{k:Nat}:zdc cells k []=cells:=rfl
attribute [go_sem] List.set_cons_zero List.set_cons_succ List.take_nil
@[go_sem] theorem zKy {xs:List FD}{i:Nat}:zbS xs 0 (i:Int)=xs.take i:=by simp[zbS]
@[go_sem] theorem zz4 {xs:List FD}{i:Nat}:zbS xs (i:Int) (xs.length:Int)=xs.drop i:=by simp[zbS]
@[go_sem] theorem zwy {α:Type}[Enc α]{l:List α}{i:Nat}:(l.map enc).take i=(l.take i).map enc:=List.map_take.symm
@[go_sem] theorem zwx {α:Type}[Enc α]{l:List α}{i:Nat}:(l.map enc).drop i=(l.drop i).map enc:=List.map_drop.symm
attribute [go_sem] false_implies true_implies imp_self
@[go_sem] theorem zK2:List.range 0=[]:=rfl
@[go_sem] theorem zK3:List.range 1=[0]:=rfl
@[go_sem] theorem zK4:List.range 2=[0,1]:=rfl
@[go_sem] theorem zK5:List.range 3=[0,1,2]:=rfl
@[go_sem] theorem zK6:List.range 4=[0,1,2,3]:=rfl
@[go_sem] theorem zK7:List.range 5=[0,1,2,3,4]:=rfl
@[go_sem] theorem zK8:List.range 6=[0,1,2,3,4,5]:=rfl
@[go_sem] theorem zK9:List.range 7=[0,1,2,3,4,5,6]:=rfl
@[go_sem] theorem zLa:List.range 8=[0,1,2,3,4,5,6,7]:=rfl
@[go_sem] theorem zLb:List.range 9=[0,1,2,3,4,5,6,7,8]:=rfl
@[go_sem] theorem zI5:List.range 10=[0,1,2,3,4,5,6,7,8,9]:=rfl
@[go_sem] theorem zI6:List.range 11=[0,1,2,3,4,5,6,7,8,9,10]:=rfl
@[go_sem] theorem zI7:List.range 12=[0,1,2,3,4,5,6,7,8,9,10,11]:=rfl
@[go_sem] theorem zFp {ds:List D}:D.val (.agg ds)=(D.toFDs ds).map fun xs=> .fz (.agg xs):=by
 simp only[D.val,D.toFD,Option.map_map]
 rfl
@[go_sem] theorem zad {s:Str}:(⟨s.l⟩:Str)=s:=rfl
structure zg2 where
 code:Int
 index:Int
 deriving DecidableEq,Inhabited
instance:Enc zg2:=⟨fun f=> .agg [.i .i64 f.code,.i .i64 f.index],fun| .agg [.i _ a,.i _ b]=>⟨a,b⟩|_=>⟨0,0⟩,fun _=>rfl⟩
@[go_sem] theorem zAb {f:zg2}:enc f= .agg [.i .i64 f.code,.i .i64 f.index]:=rfl
end Go.Abs
namespace Go.Abs
open Go
def Ren (n n':Nat)(pre:Id→Id)(vn:Id→Bool)(id id':Id):Prop:=id'.2<n'∧(id'=id∨(n≤id'.2∧vn id'=false∧pre id'=id))
mutual
def Dr (n n':Nat)(pre:Id→Id)(vn:Id→Bool)(z:Id→Option (List FD))(H:zaw)(d:D):D→Prop
 | .junk=>True
 | .ptr id' k=>∃id,d= .ptr id k∧Ren n n' pre vn id id'
 | .arr id' es s len=>(∃id,d= .arr id es s len∧Ren n n' pre vn id id')∨(d= .full []∧len=0∧id'.2<n')
 | .ow id' es xs=>(∃id,d= .ow id es xs∧Ren n n' pre vn id id')∨(d= .full xs∧id'.2<n')
 | .fz x=>d= .fz x∨d.toFD=some x∨∃id es xs,x= .sl xs∧d= .arr id es 0 xs.length∧z id=some xs∧zbB xs es
 | .fn f caps'=>∃caps,d= .fn f caps∧Drs n n' pre vn z H caps caps'
 | .agg ds'=>∃ds,d= .agg ds∧Drs n n' pre vn z H ds ds'
 | .tup ds'=>∃ds,d= .tup ds∧Drs n n' pre vn z H ds ds'
 | .full xs=>d= .full xs
 | .rp xs=>d= .rp xs
def Drs (n n':Nat)(pre:Id→Id)(vn:Id→Bool)(z:Id→Option (List FD))(H:zaw)(ds:List D):List D→Prop
 |[]=>ds=[]
 |d'::ds'=>∃d ds0,ds=d::ds0∧Dr n n' pre vn z H d d'∧Drs n n' pre vn z H ds0 ds'
end
def Zok (H:zaw)(z:Id→Option (List FD)):Prop:=∀id xs,z id=some xs→xs=[]∨∃o,H id=some o∧o.virt=false∧o.cells=zaf xs
section
variable {G:Nat→List FD} {N:Nat} {w:World} {L:Loc} {F:Nat→Nat→Prop} {n n':Nat} {pre:Id→Id} {vn:Id→Bool} {z:Id→Option (List FD)} {H:zaw}
def zqu (n:Nat)(pre:Id→Id)(vn:Id→Bool)(L:Loc):Loc:=fun id=>if n≤id.2 then(if vn id then⟨0,0,true⟩else L (pre id))else L id
def zBh (z:Id→Option (List FD))(H:zaw)(L:Loc)(F:Nat→Nat→Prop):Nat→Nat→Prop:=fun b k=>F b k∨∃id xs o,z id=some xs∧xs≠[]∧H id=some o∧(L id).3=false∧b=(L id).1∧(L id).2≤k
theorem zs2 {id id':Id}(hr:Ren n n' pre vn id id')(hu:Ub n id):zqu n pre vn L id'=L id:=by
 obtain⟨h1,rfl|⟨h2,h3,rfl⟩⟩:=hr
 ·unfold zqu;rw[if_neg (by unfold Ub at hu;omega)]
 ·unfold zqu;rw[if_pos h2,h3];rfl
theorem zj8 (hn:n≤n'):Ext w L F (Ub n) w (zqu n pre vn L) (zBh z H L F) (Ub n'):=
 ⟨fun _ h=>Nat.lt_of_lt_of_le h hn,fun id h=>by unfold zqu;rw[if_neg (by unfold Ub at h;omega)],fun _ _ h=> .inl h,fun _ _ _=>rfl,Nat.le_refl _,fun b cs T fr _ h=>⟨cs,T,fr,h,Nat.le_refl _⟩⟩
theorem zqg (hok:OkW G w L F (Ub n) H)(hz:Zok H z){id:Id}{es:Nat}{xs:List FD}{v:Value}(hv:zag w L F (Ub n) (.arr id es 0 xs.length) v)(hzi:z id=some xs)(hl:zbB xs es):
  za2 w (zBh z H L F) v (.sl xs):=by
 simp only[zag]at hv
 obtain⟨hu,a,cap,rfl,h1,h2,h3⟩:=hv
 rcases hz id xs hzi with rfl|⟨o,ho,hov,hoc⟩
 ·exact .sl0 a cap
 ·refine za2.sl_mk h1 h2 fun hpos=>?_
  have hne:xs≠[]:=by rintro rfl;simp at hpos
  rcases h3 with h3|⟨rfl,hL3,hlt,_⟩
  ·omega
  ·obtain⟨hnF,cs,T,hcs,hsz,hcell⟩:=zax (hok.live id o ho).2 hL3
   have hfl:(zaf xs).length=xs.length*es:=zbk (zbi hl)
   refine⟨(L id).1,(L id).2+0,es,fun i j=>cs.getD ((L id).2+(i*es+j)) undef,rfl,fun k _=> .inr ⟨id,xs,o,hzi,hne,ho,hL3,rfl,by omega⟩,zbi hl,fun i j hi hj=>?_,fun i j hi hj=>?_⟩
   ·have hlt2:i*es+j<o.cells.length:=by
     rw[hoc,hfl];exact znJ hi hj
    obtain⟨u,hu1,_⟩:=hcell _ hlt2
    rw[zeY hcs,show(L id).2+0+i*es+j=(L id).2+(i*es+j) by omega,hu1]
    simp[Array.getD_eq_getD_getElem?,hu1]
   ·have hlt2:i*es+j<o.cells.length:=by
     rw[hoc,hfl];exact znJ hi hj
    obtain⟨u,hu1,hu2⟩:=hcell _ hlt2
    rw[hoc,zc0 (zbi hl) hi hj]at hu2
    simp only[Array.getD_eq_getD_getElem?,hu1,Option.getD_some]
    simp only[zag]at hu2
    exact hu2.mono (fun _ _ _=>rfl) fun _ _ h=> .inl h
mutual
theorem zr0 (hok:OkW G w L F (Ub n) H)(hz:Zok H z)(hn:n≤n'):∀(d' d:D) (v:Value),Dr n n' pre vn z H d d'→zag w L F (Ub n) d v→zag w (zqu n pre vn L) (zBh z H L F) (Ub n') d' v
 | .junk,_,_,_,_=>by simp[zag]
 | .ptr id' k,d,v,h,hv=>by
  simp only[Dr]at h
  obtain⟨id,rfl,hr⟩:=h
  simp only[zag]at hv ⊢
  rw[zs2 hr hv.1]
  exact⟨hr.1,hv.2⟩
 | .arr id' es s len,d,v,h,hv=>by
  simp only[Dr]at h
  rcases h with⟨id,rfl,hr⟩|⟨rfl,rfl,hu⟩
  ·simp only[zag]at hv ⊢
   rw[zs2 hr hv.1]
   exact⟨hr.1,hv.2⟩
  ·simp only[zag]at hv ⊢
   obtain⟨a,rfl,_⟩:=hv
   exact⟨hu,a,0,rfl,Nat.le_refl _,Nat.zero_le _,.inl rfl⟩
 | .fz x,d,v,h,hv=>by
  simp only[Dr]at h
  rcases h with rfl|h|⟨id,es,xs,rfl,rfl,hzi,hl⟩
  ·exact hv.ext (zj8 hn)
  ·have:=zag.toFD _ _ _ hv h
   simp only[zag]
   exact this.mono (fun _ _ _=>rfl) fun _ _ h=> .inl h
  ·simp only[zag]
   exact zqg hok hz hv hzi hl
 | .ow id' es xs,d,v,h,hv=>by
  simp only[Dr]at h
  rcases h with⟨id,rfl,hr⟩|⟨rfl,hu⟩
  ·simp only[zag]at hv ⊢
   obtain⟨h1,h2,a,cap,h3,h4⟩:=hv
   rw[zs2 hr h1]
   exact⟨hr.1,h2.mono (fun _ _ _=>rfl) fun _ _ h=> .inl h,a,cap,h3,h4⟩
  ·simp only[zag]at hv ⊢
   obtain⟨a,rfl,h2⟩:=hv
   exact⟨hu,h2.mono (fun _ _ _=>rfl) fun _ _ h=> .inl h,a,_,rfl,.inl rfl⟩
 | .fn f caps',d,v,h,hv=>by
  simp only[Dr]at h
  obtain⟨caps,rfl,h⟩:=h
  simp only[zag]at hv ⊢
  obtain⟨vs,rfl,hv⟩:=hv
  exact⟨vs,rfl,zjX hok hz hn caps' caps vs h hv⟩
 | .agg ds',d,v,h,hv=>by
  simp only[Dr]at h
  obtain⟨ds,rfl,h⟩:=h
  simp only[zag]at hv ⊢
  obtain⟨vs,rfl,hv⟩:=hv
  exact⟨vs,rfl,zjX hok hz hn ds' ds vs h hv⟩
 | .tup ds',d,v,h,hv=>by
  simp only[Dr]at h
  obtain⟨ds,rfl,h⟩:=h
  simp only[zag]at hv ⊢
  obtain⟨vs,rfl,hv⟩:=hv
  exact⟨vs,rfl,zjX hok hz hn ds' ds vs h hv⟩
 | .full xs,d,v,h,hv=>by
  simp only[Dr]at h
  subst h
  exact hv.ext (zj8 hn)
 | .rp xs,d,v,h,hv=>by
  simp only[Dr]at h
  subst h
  exact hv.ext (zj8 hn)
theorem zjX (hok:OkW G w L F (Ub n) H)(hz:Zok H z)(hn:n≤n'):∀(ds' ds:List D) (vs:List Value),Drs n n' pre vn z H ds ds'→zah w L F (Ub n) ds vs→zah w (zqu n pre vn L) (zBh z H L F) (Ub n') ds' vs
 |[],ds,vs,h,hv=>by
  simp only[Drs]at h
  subst h
  cases vs with
  |nil=>trivial
  |cons=>exact hv.elim
 |d'::ds',ds,vs,h,hv=>by
  simp only[Drs]at h
  obtain⟨d,ds0,rfl,h1,h2⟩:=h
  cases vs with
  |nil=>exact hv.elim
  |cons v vs=>
   simp only[zah]at hv ⊢
   exact⟨zr0 hok hz hn d' d v h1 hv.1,zjX hok hz hn ds' ds0 vs h2 hv.2⟩
end
def Hr (n n':Nat)(pre:Id→Id)(vn:Id→Bool)(z:Id→Option (List FD))(H H':zaw):Prop:=
 ∀id' o',H' id'=some o'→(vn id'=true∧n≤id'.2∧id'.2<n'∧o'.virt=true∧o'.cells=[])∨z (pre id')=none∧Ren n n' pre vn (pre id') id'∧∃o,H (pre id')=some o∧o'.virt=o.virt∧o'.cells.length=o.cells.length∧
  ∀j,j<o'.cells.length→Dr n n' pre vn z H (o.cells.getD j .junk) (o'.cells.getD j .junk)
theorem zoa {st st':St}(pre:Id→Id)(vn:Id→Bool)(z:Id→Option (List FD))(hn:st.n≤st'.n)(hz:Zok st.H z)(hH:Hr st.n st'.n pre vn z st.H st'.H)
  (hinj:∀id1 id2 o1 o2,st'.H id1=some o1→st'.H id2=some o2→pre id1=pre id2→id1=id2)
  (hfr:∀t,Dr st.n st'.n pre vn z st.H (st.fr t) (st'.fr t)):zeh G N st st':=by
 intro a w L F h
 have hok:=h.ok
 have live:∀id' o',st'.H id'=some o'→(zqu st.n pre vn L id').3=false→∃o,st.H (pre id')=some o∧zqu st.n pre vn L id'=L (pre id'):=fun id' o' ho hv=>by
  rcases hH id' o' ho with⟨q1,q2,_,_,_⟩|⟨_,hr,o,h1,h2,_⟩
  ·unfold zqu at hv;rw[if_pos q2,if_pos q1]at hv;cases hv
  exact⟨o,h1,zs2 hr (hok.live _ _ h1).1⟩
 have own:∀b k,Own st'.H (zqu st.n pre vn L) b k→Own st.H L b k:=by
  rintro b k ⟨id',o',h1,h2,h3,h4⟩
  obtain⟨o,g1,g3⟩:=live id' o' h1 h2
  rw[g3]at h2 h3 h4
  exact⟨pre id',o,g1,h2,h3,h4⟩
 refine⟨zqu st.n pre vn L,zBh z st.H L F,⟨⟨fun b k hb=>?_,fun id' o' ho=>?_,fun id1 id2 o1 o2 h1 h2 v1 v2 e=>?_,zb4 (fun _ _ h=> .inl h) (fun _ _ _=>rfl) hok.glob⟩,h.size,fun t=>zr0 hok hz hn _ _ _ (hfr t) (h.fr t),h.nd⟩,
  ⟨fun id hid=>Nat.lt_of_lt_of_le hid hn,(zj8 (w:=w) (F:=F) (z:=z) (H:=st.H) hn).l,fun _ _ h=> .inl h,Nat.le_refl _,fun _ _ _=>rfl,fun _ _ _ _=>rfl,fun b cs T fr _ h=>⟨cs,T,fr,h,Nat.le_refl _⟩,fun b k hb=>?_,fun b k hb=> .inr (own b k hb),rfl,rfl,rfl,Nat.le_refl _⟩⟩
 ·rcases hb with hb|⟨id,xs,o,h1,h2,h3,h4,rfl,_⟩
  ·exact hok.fb b k hb
  ·exact hok.blk_lt h3 h4
 ·rcases hH id' o' ho with⟨q1,q2,q3,q4,q5⟩|⟨hzn,hr,o,h1,h2,h3,h4⟩
  ·refine⟨q3,?_⟩
   unfold zbM zqu
   rw[if_pos q2,if_pos q1]
   simp only[if_true]
   exact⟨q5,q4⟩
  obtain⟨hu,hob⟩:=hok.live _ _ h1
  have eL:=zs2 (L:=L) hr hu
  refine⟨hr.1,?_⟩
  unfold zbM at hob ⊢
  rw[eL]
  cases hv:(L (pre id')).3
  ·simp only[hv,Bool.false_eq_true,if_false]at hob ⊢
   obtain⟨g1,cs,T,g2,g3,g4⟩:=hob
   refine⟨?_,cs,T,g2,by rw[h3];exact g3,fun j hj=>?_⟩
   ·rintro k hk (hF|⟨id,xs,oz,z1,z2,z3,z4,e,_⟩)
    ·exact g1 k hk hF
    ·have:=hok.inj (pre id') id o oz h1 z3 hv z4 e
     rw[←this,hzn]at z1
     cases z1
   ·obtain⟨u,e1,e2⟩:=g4 j (by rw[←h3];exact hj)
    exact⟨u,e1,zr0 hok hz hn _ _ _ (h4 j hj) e2⟩
  ·simp only[hv,if_true]at hob ⊢
   exact⟨List.eq_nil_of_length_eq_zero (by rw[h3,hob.1];rfl),by rw[h2];exact hob.2⟩
 ·obtain⟨p1,g1,g3⟩:=live id1 o1 h1 v1
  obtain⟨p2,g4,g6⟩:=live id2 o2 h2 v2
  rw[g3]at v1
  rw[g6]at v2
  rw[g3,g6]at e
  exact hinj id1 id2 o1 o2 h1 h2 (hok.inj _ _ _ _ g1 g4 v1 v2 e)
 ·rcases hb with hb|⟨id,xs,o,h1,h2,h3,h4,rfl,h6⟩
  ·exact .inl hb
  ·exact .inr (.inr ⟨id,o,h3,h4,rfl,h6⟩)
end
end Go.Abs
namespace Go.Abs
open Go
def zq8:List (Id×Id)→Id→Id
 |[],i=>i
 |(a,b)::l,i=>if i=a then b else zq8 l i
def zL:List (Id×List FD)→Id→Option (List FD)
 |[],_=>none
 |(a,xs)::l,i=>if i=a then some xs else zL l i
def vL:List Id→Id→Bool
 |[],_=>false
 |a::l,i=>decide (i=a)||vL l i
def ZE (xs:List FD):Option O→Prop
 |none=>False
 |some o=>o.cells=zaf xs∧(o.virt=true→xs=[])
def zuc (H:zaw):List (Id×List FD)→Prop
 |[]=>True
 |(i,xs)::l=>ZE xs (H i)∧zuc H l
theorem zuc.ok {H:zaw}:∀{l:List (Id×List FD)},zuc H l→Zok H (zL l)
 |[],_,_,_,h=>by cases h
 |(i,ys)::l,h,id,xs,e=>by
  simp only[zL]at e
  split at e
  ·rename_i e'
   subst e'
   obtain rfl:=Option.some.inj e
   have h1:=h.1
   cases ho:H id with
   |none=>rw[ho]at h1;exact h1.elim
   |some o=>
    rw[ho]at h1
    cases hv:o.virt with
    |true=>exact .inl (h1.2 hv)
    |false=>exact .inr ⟨o,rfl,hv,h1.1⟩
  ·exact zuc.ok h.2 id xs e
def HO (n n':Nat)(pre:Id→Id)(vn:Id→Bool)(z:Id→Option (List FD))(H:zaw)(o':O):Option O→Prop
 |none=>False
 |some o=>o'.virt=o.virt∧Drs n n' pre vn z H o.cells o'.cells
def HE (n n':Nat)(pre:Id→Id)(vn:Id→Bool)(z:Id→Option (List FD))(H:zaw)(id':Id)(o':O):Prop:=
 if vn id'=true then n≤id'.2∧id'.2<n'∧o'.virt=true∧o'.cells=[]else z (pre id')=none∧Ren n n' pre vn (pre id') id'∧HO n n' pre vn z H o' (H (pre id'))
def HrL (n n':Nat)(pre:Id→Id)(vn:Id→Bool)(z:Id→Option (List FD))(H:zaw):List (Id×Option O)→Prop
 |[]=>True
 |(i,some o)::l=>HE n n' pre vn z H i o∧HrL n n' pre vn z H l
 |(_,none)::l=>HrL n n' pre vn z H l
section
variable {n n':Nat} {pre:Id→Id} {vn:Id→Bool} {z:Id→Option (List FD)} {H:zaw}
theorem zm4:∀{ds' ds:List D},Drs n n' pre vn z H ds ds'→ds'.length=ds.length∧∀j,j<ds'.length→Dr n n' pre vn z H (ds.getD j .junk) (ds'.getD j .junk)
 |[],ds,h=>by simp only[Drs]at h;subst h;simp
 |d'::ds',ds,h=>by
  simp only[Drs]at h
  obtain⟨d,ds0,rfl,h1,h2⟩:=h
  obtain⟨g1,g2⟩:=zm4 h2
  refine⟨by simp[g1],fun j hj=>?_⟩
  cases j with
  |zero=>simpa using h1
  |succ j=>simpa using g2 j (by simpa using hj)
theorem zDi {id':Id}{o':O}(h:HE n n' pre vn z H id' o'):(vn id'=true∧n≤id'.2∧id'.2<n'∧o'.virt=true∧o'.cells=[])∨z (pre id')=none∧Ren n n' pre vn (pre id') id'∧∃o,H (pre id')=some o∧o'.virt=o.virt∧o'.cells.length=o.cells.length∧
  ∀j,j<o'.cells.length→Dr n n' pre vn z H (o.cells.getD j .junk) (o'.cells.getD j .junk):=by
 unfold HE at h
 split at h
 ·rename_i hv;exact .inl ⟨hv,h⟩
 ·obtain⟨h1,h2,h3⟩:=h
  refine .inr ⟨h1,h2,?_⟩
  cases ho:H (pre id')with
  |none=>rw[ho]at h3;exact h3.elim
  |some o=>
   rw[ho]at h3
   obtain⟨g1,g2⟩:=zm4 h3.2
   exact⟨o,rfl,h3.1,g1,g2⟩
theorem HrL.ok:∀{l:List (Id×Option O)},HrL n n' pre vn z H l→Hr n n' pre vn z H (hpL l)
 |[],_,_,_,h=>by cases h
 |(i,some o)::l,h,id',o',e=>by
  simp only[hpL]at e
  split at e
  ·rename_i e'
   subst e'
   obtain rfl:=Option.some.inj e
   exact zDi h.1
  ·exact HrL.ok h.2 id' o' e
 |(i,none)::l,h,id',o',e=>by
  simp only[hpL]at e
  split at e
  ·cases e
  ·exact HrL.ok (l:=l) h id' o' e
def zjA (pre:Id→Id):List (Id×Option O)→Prop
 |[]=>True
 |(i,_)::l=>(∀p∈l,pre p.1≠pre i)∧zjA pre l
theorem zsr:∀{l:List (Id×Option O)} {id:Id} {o:O},hpL l id=some o→∃p∈l,p.1=id
 |[],_,_,h=>by cases h
 |(i,o')::l,id,o,h=>by
  simp only[hpL]at h
  split at h
  ·rename_i e;exact⟨_,List.mem_cons_self,e.symm⟩
  ·obtain⟨p,h1,h2⟩:=zsr h;exact⟨p,List.mem_cons_of_mem _ h1,h2⟩
theorem zjA.inj:∀{l:List (Id×Option O)},zjA pre l→∀id1 id2 o1 o2,hpL l id1=some o1→hpL l id2=some o2→pre id1=pre id2→id1=id2
 |[],_,_,_,_,_,h,_,_=>by cases h
 |(i,o)::l,h,id1,id2,o1,o2,h1,h2,e=>by
  simp only[hpL]at h1 h2
  by_cases e1:id1=i
  ·by_cases e2:id2=i
   ·rw[e1,e2]
   ·rw[if_neg e2]at h2
    obtain⟨p,hp,rfl⟩:=zsr h2
    exact absurd (by rw[←e,e1]) (h.1 p hp)
  ·rw[if_neg e1]at h1
   by_cases e2:id2=i
   ·obtain⟨p,hp,rfl⟩:=zsr h1
    exact absurd (by rw[e,e2]) (h.1 p hp)
   ·rw[if_neg e2]at h2
    exact zjA.inj h.2 id1 id2 o1 o2 h1 h2 e
def FrR (n n':Nat)(pre:Id→Id)(vn:Id→Bool)(z:Id→Option (List FD))(H:zaw)(fr:Nat→D):List (Nat×D)→Prop
 |[]=>True
 |(k,d)::l=>Dr n n' pre vn z H (fr k) d∧FrR n n' pre vn z H fr l
theorem FrR.get {fr:Nat→D}:∀{l:List (Nat×D)},FrR n n' pre vn z H fr l→∀t,Dr n n' pre vn z H (fr t) (frL l t)
 |[],_,_=>by simp[frL,Dr]
 |(k,d)::l,h,t=>by
  simp only[frL]
  split
  ·rename_i e;subst e;exact h.1
  ·exact FrR.get h.2 t
theorem zei {G:Nat→List FD}{N:Nat}{st:St}{l:List (Nat×D)}{hl:List (Id×Option O)}{m:Nat}(pr:List (Id×Id))(vs:List Id)(zs:List (Id×List FD))
  (hn:st.n≤m)(hz:zuc st.H zs)(hh:HrL st.n m (zq8 pr) (vL vs) (zL zs) st.H hl)(ha:zjA (zq8 pr) hl)(hf:FrR st.n m (zq8 pr) (vL vs) (zL zs) st.H st.fr l):
  zeh G N st ⟨frL l,hpL hl,m⟩:=
 zoa (st':=⟨frL l,hpL hl,m⟩) (zq8 pr) (vL vs) (zL zs) hn hz.ok hh.ok (fun id1 id2 o1 o2 h1 h2 e=>ha.inj id1 id2 o1 o2 h1 h2 e) fun t=>hf.get t
theorem zhr:∀(ds:List D),(∀d∈ds,∃x,d= .fz x)→Drs n n' pre vn z H ds ds
 |[],_=>by simp[Drs]
 |d::ds,h=>by
  obtain⟨x,rfl⟩:=h d (by simp)
  simp only[Drs]
  exact⟨.fz x,ds,rfl,by simp[Dr],zhr ds fun d hd=>h d (by simp[hd])⟩
@[go_sem] theorem zG9 {xs:List FD}:Drs n n' pre vn z H (zaf xs) (zaf xs)=True:=by
 refine eq_true (zhr _ fun d hd=>?_)
 simp only[zaf,List.mem_flatMap,List.mem_map]at hd
 obtain⟨_,_,x,_,rfl⟩:=hd
 exact⟨x,rfl⟩
@[go_sem] theorem zIY:Drs n n' pre vn z H [] []=True:=by simp[Drs]
@[go_sem] theorem zBq {d d':D}{ds ds':List D}:Drs n n' pre vn z H (d::ds) (d'::ds')=(Dr n n' pre vn z H d d'∧Drs n n' pre vn z H ds ds'):=by
 simp only[Drs,List.cons.injEq,eq_iff_iff]
 exact⟨fun⟨_,_,⟨rfl,rfl⟩,h1,h2⟩=>⟨h1,h2⟩,fun⟨h1,h2⟩=>⟨_,_,⟨rfl,rfl⟩,h1,h2⟩⟩
@[go_sem] theorem zIZ {id id':Id}{k k':Nat}:Dr n n' pre vn z H (.ptr id k) (.ptr id' k')=(k=k'∧Ren n n' pre vn id id'):=by
 simp only[Dr,D.ptr.injEq,eq_iff_iff]
 constructor
 ·rintro⟨_,⟨rfl,rfl⟩,h⟩;exact⟨rfl,h⟩
 ·rintro⟨rfl,h2⟩;exact⟨_,⟨rfl,rfl⟩,h2⟩
@[go_sem] theorem zIT {id id':Id}{es s len es' s' len':Nat}:Dr n n' pre vn z H (.arr id es s len) (.arr id' es' s' len')=(es=es'∧s=s'∧len=len'∧Ren n n' pre vn id id'):=by
 simp only[Dr,D.arr.injEq,reduceCtorEq,false_and,or_false,eq_iff_iff]
 constructor
 ·rintro⟨_,⟨rfl,rfl,rfl,rfl⟩,h⟩;exact⟨rfl,rfl,rfl,h⟩
 ·rintro⟨rfl,rfl,rfl,h4⟩;exact⟨_,⟨rfl,rfl,rfl,rfl⟩,h4⟩
@[go_sem] theorem zHe {id':Id}{es s len:Nat}:Dr n n' pre vn z H (.full []) (.arr id' es s len)=(len=0∧id'.2<n'):=by
 simp[Dr]
@[go_sem] theorem zIW {id:Id}{es s len:Nat}{xs:List FD}:Dr n n' pre vn z H (.arr id es s len) (.fz (.sl xs))=(s=0∧len=xs.length∧z id=some xs∧zbB xs es):=by
 simp only[Dr,reduceCtorEq,D.toFD,FD.sl.injEq,D.arr.injEq,false_or,eq_iff_iff]
 constructor
 ·rintro⟨_,_,_,rfl,⟨rfl,rfl,rfl,rfl⟩,h1,h2⟩;exact⟨rfl,rfl,h1,h2⟩
 ·rintro⟨rfl,rfl,h1,h2⟩;exact⟨_,_,_,rfl,⟨rfl,rfl,rfl,rfl⟩,h1,h2⟩
@[go_sem] theorem zKV {id id':Id}{es es':Nat}{xs xs':List FD}:Dr n n' pre vn z H (.ow id es xs) (.ow id' es' xs')=(es=es'∧xs=xs'∧Ren n n' pre vn id id'):=by
 simp only[Dr,D.ow.injEq,reduceCtorEq,false_and,or_false,eq_iff_iff]
 constructor
 ·rintro⟨_,⟨rfl,rfl,rfl⟩,h⟩;exact⟨rfl,rfl,h⟩
 ·rintro⟨rfl,rfl,h4⟩;exact⟨_,⟨rfl,rfl,rfl⟩,h4⟩
@[go_sem] theorem zC9 {id':Id}{es:Nat}{xs xs':List FD}:Dr n n' pre vn z H (.full xs) (.ow id' es xs')=(xs=xs'∧id'.2<n'):=by
 simp only[Dr,reduceCtorEq,false_and,exists_false,false_or,D.full.injEq]
@[go_sem] theorem zHc {id:Id}{es:Nat}{xs:List FD}{y:FD}:Dr n n' pre vn z H (.ow id es xs) (.fz y)=(FD.sl xs=y):=by
 simp only[Dr,reduceCtorEq,D.toFD,Option.some.injEq,false_and,and_false,exists_false,or_false,false_or]
@[go_sem] theorem zIX {x y:FD}:Dr n n' pre vn z H (.fz x) (.fz y)=(x=y):=by
 simp only[Dr,D.fz.injEq,D.toFD,Option.some.injEq,reduceCtorEq,false_and,and_false,exists_false,or_false,or_self]
@[go_sem] theorem zHa {xs:List FD}{y:FD}:Dr n n' pre vn z H (.full xs) (.fz y)=(FD.sl xs=y):=by
 simp only[Dr,reduceCtorEq,D.toFD,Option.some.injEq,false_and,and_false,exists_false,or_false,false_or]
@[go_sem] theorem zE9 {xs ys:List FD}:Dr n n' pre vn z H (.full xs) (.full ys)=(xs=ys):=by
 simp only[Dr,D.full.injEq]
@[go_sem] theorem zHb {d:D}:Dr n n' pre vn z H d .junk=True:=by simp[Dr]
@[go_sem] theorem zKP {f g:FuncId}{c c':List D}:Dr n n' pre vn z H (.fn f c) (.fn g c')=(f=g∧Drs n n' pre vn z H c c'):=by
 simp only[Dr,D.fn.injEq,eq_iff_iff]
 constructor
 ·rintro⟨_,⟨rfl,rfl⟩,h⟩;exact⟨rfl,h⟩
 ·rintro⟨rfl,h2⟩;exact⟨_,⟨rfl,rfl⟩,h2⟩
@[go_sem] theorem zHd {id:Id}:Ren n n' pre vn id id=(id.2<n'):=by simp[Ren]
@[go_sem] theorem zIU {fr:Nat→D}:FrR n n' pre vn z H fr []=True:=rfl
@[go_sem] theorem zIV {fr:Nat→D}{k:Nat}{d:D}{l:List (Nat×D)}:FrR n n' pre vn z H fr ((k,d)::l)=(Dr n n' pre vn z H (fr k) d∧FrR n n' pre vn z H fr l):=rfl
@[go_sem] theorem zKQ:HrL n n' pre vn z H []=True:=rfl
@[go_sem] theorem zKR {i:Id}{o:O}{l:List (Id×Option O)}:HrL n n' pre vn z H ((i,some o)::l)=(HE n n' pre vn z H i o∧HrL n n' pre vn z H l):=rfl
@[go_sem] theorem zKS {i:Id}{o:O}:HE n n' pre vn z H i o=if vn i=true then n≤i.2∧i.2<n'∧o.virt=true∧o.cells=[]else z (pre i)=none∧Ren n n' pre vn (pre i) i∧HO n n' pre vn z H o (H (pre i)):=rfl
@[go_sem] theorem zKU {o o':O}:HO n n' pre vn z H o' (some o)=(o'.virt=o.virt∧Drs n n' pre vn z H o.cells o'.cells):=rfl
@[go_sem] theorem zKZ:zuc H []=True:=rfl
@[go_sem] theorem zK0 {i:Id}{xs:List FD}{l:List (Id×List FD)}:zuc H ((i,xs)::l)=(ZE xs (H i)∧zuc H l):=rfl
@[go_sem] theorem zK1 {o:O}{xs:List FD}:ZE xs (some o)=(o.cells=zaf xs∧(o.virt=true→xs=[])):=rfl
@[go_sem] theorem zKN:zjA pre []=True:=rfl
@[go_sem] theorem zKO {i:Id}{o:Option O}{l:List (Id×Option O)}:zjA pre ((i,o)::l)=((∀p∈l,pre p.1≠pre i)∧zjA pre l):=rfl
@[go_sem] theorem zKW {i:Id}:zq8 [] i=i:=rfl
@[go_sem] theorem zKX {a b i:Id}{l:List (Id×Id)}:zq8 ((a,b)::l) i=if i=a then b else zq8 l i:=rfl
@[go_sem] theorem zI3 {i:Id}:zL [] i=none:=rfl
@[go_sem] theorem zI4 {a i:Id}{xs:List FD}{l:List (Id×List FD)}:zL ((a,xs)::l) i=if i=a then some xs else zL l i:=rfl
@[go_sem] theorem zI1 {i:Id}:vL [] i=false:=rfl
@[go_sem] theorem zI2 {a i:Id}{l:List Id}:vL (a::l) i=(decide (i=a)||vL l i):=rfl
attribute [go_sem] List.forall_mem_cons List.not_mem_nil List.mem_cons forall_eq_or_imp forall_eq Option.some.injEq reduceCtorEq
@[go_sem] theorem zB3:zaf []=[]:=rfl
@[go_sem] theorem zB2 {xs ys:List FD}:zaf xs++zaf ys=zaf (xs++ys):=by simp[zaf]
end
end Go.Abs
namespace Go.Abs
open Go
section
variable {P:Program} {G:Nat→List FD}
theorem zdC {f:FuncId}{args args':List D}{H H':zaw}{n n':Nat}{R:D→zaw→Nat→Prop}(hlen:args'.length=args.length)
  (hW:zeh G args.length ⟨frL (zgE 0 args),H,n⟩ ⟨frL (zgE 0 args'),H',n'⟩)(h:zaH P G f args' H' n' R):zaH P G f args H n R:=by
 refine⟨h.1,fun w L F vs hok hvs=>?_⟩
 have hvl:=(zah.iff _ _).1 hvs
 have hrel:Rel G args.length ⟨frL (zgE 0 args),H,n⟩ {tmps:=vs.toArray,defers:=[]} w L F:=by
  refine⟨hok,by simpa using hvl.1,fun t=>?_,rfl⟩
  simp only
  rw[←zdj]
  simp only[zjM]
  by_cases ht:t<args.length
  ·have:=hvl.2 t ht
   simpa[Array.getD_eq_getD_getElem?,List.getD_eq_getElem?_getD]using this
  ·have:args.getD t .junk= .junk:=by rw[List.getD_eq_getElem?_getD,List.getElem?_eq_none (by omega)];rfl
   rw[this];simp[zag]
 obtain⟨L1,F1,h1,h2⟩:=hW _ w L F hrel
 have hvs':zah w L1 F1 (Ub n') args' vs:=by
  rw[zah.iff]
  refine⟨by rw[hlen];exact hvl.1,fun j hj=>?_⟩
  have:=h1.fr j
  simp only at this
  rw[←zdj]at this
  simp only[zjM]at this
  simpa[Array.getD_eq_getD_getElem?,List.getD_eq_getElem?_getD]using this
 refine(h.2 w L1 F1 vs h1.ok hvs').mono fun e w' he=>?_
 obtain⟨v,d,H2,n2,L2,F2,e1,e2,e3,e4,e5⟩:=he
 exact⟨v,d,H2,n2,L2,F2,e1,e2,e3,e4,zbs.trans h2 e5⟩
theorem zjE {f:FuncId}{args args':List D}{H:zaw}{hl:List (Id×Option O)}{n n':Nat}{R:D→zaw→Nat→Prop}(pr:List (Id×Id))(vs:List Id)(zs:List (Id×List FD))(hlen:args'.length=args.length)
  (hn:n≤n')(hz:zuc H zs)(hh:HrL n n' (zq8 pr) (vL vs) (zL zs) H hl)(ha:zjA (zq8 pr) hl)(hf:Drs n n' (zq8 pr) (vL vs) (zL zs) H args args')
  (h:zaH P G f args' (hpL hl) n' R):zaH P G f args H n R:=by
 refine zdC hlen ?_ h
 refine zoa (st':=⟨frL (zgE 0 args'),hpL hl,n'⟩) (zq8 pr) (vL vs) (zL zs) hn hz.ok hh.ok (fun id1 id2 o1 o2 h1 h2 e=>ha.inj id1 id2 o1 o2 h1 h2 e) fun t=>?_
 simp only
 rw[←zdj,←zdj]
 simp only[zjM]
 obtain⟨g1,g2⟩:=zm4 hf
 by_cases ht:t<args'.length
 ·exact g2 t ht
 ·have:args'.getD t .junk= .junk:=by rw[List.getD_eq_getElem?_getD,List.getElem?_eq_none (by omega)];rfl
  rw[this];simp[Dr]
theorem zrq {T:Tbl}(hT:zai P G T){f:FuncId}{t:List FD→Option (D×Prop)}{args:List D}{xs:List FD}{r:D}{c:Prop}{H:zaw}{n:Nat}{R:D→zaw→Nat→Prop}(ht:T f=some t)(ha:D.toFDs args=some xs)(hx:t xs=some (r,c))(hc:c)(hR:R r H n):zaH P G f args H n R:=by
 refine zaK (ziS ha (hT _ _ _ _ _ ht hx hc)) ?_
 rintro d H' n' ⟨rfl,rfl,rfl⟩
 exact hR
end
end Go.Abs
namespace Go.Abs
open Go
theorem zhU {xs:List FD}(h:zbB xs 1):(zaf xs).length=xs.length:=by
 rw[zbk (zbi h),Nat.mul_one]
class One (α:Type)[Enc α]:Prop where
 one:∀a:α,(enc a).cells=[enc a]
 ob:∀a:α,zcf (.fz (enc a))=true
instance:One Str:=⟨fun _=>rfl,fun _=>rfl⟩
instance:One Int:=⟨fun _=>rfl,fun _=>rfl⟩
instance:One Bool:=⟨fun _=>rfl,fun _=>rfl⟩
instance {α:Type}[Enc α]:One (List α):=⟨fun _=>rfl,fun _=>rfl⟩
section
variable {α:Type} [Enc α] [One α]
theorem zbw:∀(l:List α),zaf (l.map enc)=l.map fun a=> .fz (enc a)
 |[]=>rfl
 |a::l=>by
  have:=zbw l
  simp only[zaf,List.map_cons,List.flatMap_cons]at this ⊢
  rw[this,One.one a]
  rfl
@[go_sem] theorem zwl {l:List α}:(zaf (l.map enc)).length=l.length:=by rw[zbw];simp
@[go_sem] theorem zuN {l:List α}{i:Nat}:(zaf (l.map enc)).take i=zaf ((l.take i).map enc):=by rw[zbw,zbw,List.map_take]
@[go_sem] theorem zuM {l:List α}{i:Nat}:(zaf (l.map enc)).drop i=zaf ((l.drop i).map enc):=by rw[zbw,zbw,List.map_drop]
@[go_sem] theorem zwi {l:List α}:(zaf (l.map enc)).all zcf=true:=by
 rw[zbw,List.all_eq_true]
 intro d hd
 obtain⟨a,_,rfl⟩:=List.mem_map.1 hd
 exact One.ob a
theorem zsd {l:List α}{i:Nat}(h:i<l.length):(zaf (l.map enc)).getD i .junk= .fz (enc l[i]):=by
 rw[zbw];simp[List.getD_eq_getElem?_getD,h]
@[go_sem] theorem zDb:∀{l:List α},zvT (zaf (l.map enc))=some (l.map enc):=fun{l}=>by
 rw[zbw]
 induction l with
 |nil=>rfl
 |cons a l ih=>
  have h1:=One.ob a
  simp only[List.map_cons]
  generalize enc a=x at h1 ⊢
  cases x with
  |agg _=>simp[zcf]at h1
  |_=>simp only[zvT,ih,Option.map_some]
theorem zoH {l:List α}{i:Nat}{a:α}:(zaf (l.map enc)).set i (.fz (enc a))=zaf ((l.set i a).map enc):=by
 rw[zbw,zbw,List.map_set]
@[go_sem] theorem zwk {l:List α}:(zaf (l.map enc)).isEmpty=l.isEmpty:=by rw[zbw];cases l<;>rfl
end
@[go_sem] theorem zxk {xs:List FD}:(zaf [.sl xs]).all zcf=true:=rfl
@[go_sem] theorem zyW {l:List UInt8}:(zaf [.s l]).all zcf=true:=rfl
@[go_sem] theorem zyV {k:IntKind}{n:Int}:(zaf [.i k n]).all zcf=true:=rfl
@[go_sem] theorem zxm {xs:List FD}:zaf [.sl xs]=[.fz (.sl xs)]:=rfl
@[go_sem] theorem zyY {l:List UInt8}:zaf [.s l]=[.fz (.s l)]:=rfl
@[go_sem] theorem zyX {k:IntKind}{n:Int}:zaf [.i k n]=[.fz (.i k n)]:=rfl
@[go_sem] theorem zwh {cs xs:List FD}:(zaf (.agg cs::xs)).all zcf=((cs.map D.fz).all zcf&&(zaf xs).all zcf):=by
 simp only[zaf,List.flatMap_cons,List.all_append];rfl
@[go_sem] theorem zwj:(zaf []).all zcf=true:=rfl
attribute [go_sem] List.take_length List.set_nil
@[go_sem] theorem zAW {H:zaw}{te:TI}{id:Id}{es s len:Nat}:zbG H te (.arr id es s len)=@obK _ _ (H id) ⟨fun o=>some (len,(o.cells.drop s).take (len*te.size),es=te.size∧s+len*te.size≤o.cells.length)⟩:=by
 have e:zbG H te (.arr id es s len)=match H id with
  |some o=>some (len,(o.cells.drop s).take (len*te.size),es=te.size∧s+len*te.size≤o.cells.length)
  |none=>none:=rfl
 rw[e]
 unfold obK ob
 cases H id<;>rfl
@[go_sem] theorem zAa {α:Type}{xs ys:List α}:(xs++ys).isEmpty=(xs.isEmpty&&ys.isEmpty):=by cases xs<;>simp
attribute [go_sem] List.isEmpty_cons List.isEmpty_nil List.length_append List.map_append List.length_singleton
section
variable {n n':Nat} {pre:Id→Id} {vn:Id→Bool} {z:Id→Option (List FD)} {H:zaw}
@[go_sem] theorem zKT {i:Id}{l:List (Id×Option O)}:HrL n n' pre vn z H ((i,none)::l)=HrL n n' pre vn z H l:=rfl
attribute [go_sem] Nat.not_lt_zero
end
end Go.Abs
