/- a framework of my own: an abstract walk over the machine, part 2; no conditions -/
import Derived.Test.YtmconmiemdinkaaDoorA1
set_option linter.unusedSimpArgs false
namespace Go.Abs
open Go
def W (P:Program)(G:Nat→List FD)(N:Nat)(c:Code)(Q:Exit→St→Prop)(st:St):Prop:=
 ∀(a:Act) (w:World) (L:Loc) (F:Nat→Nat→Prop),Rel G N st a w L F→c.wp P (fun e a' w'=>Sat G N st w L F (Q e) a' w') a w
section
variable {P:Program} {G:Nat→List FD} {N tag0:Nat} {st:St} {a:Act} {w:World} {L:Loc} {F:Nat→Nat→Prop} {K:St→Prop} {Q:Exit→St→Prop}
theorem Sat.mono {st0:St}{w0 L0 F0}{K K':St→Prop}{a w}(h:Sat G N st0 w0 L0 F0 K a w)(hk:∀st,K st→K' st):Sat G N st0 w0 L0 F0 K' a w:=by
 obtain⟨st,L,F,h1,h2,h3⟩:=h
 exact⟨st,L,F,hk _ h1,h2,h3⟩
theorem Sat.trans {st0 st1:St}{w0 L0 F0 w1 L1 F1}{a w}(hs:zhZ st0 w0 L0 F0 st1 w1 L1 F1)(h:Sat G N st1 w1 L1 F1 K a w):Sat G N st0 w0 L0 F0 K a w:=by
 obtain⟨st,L,F,h1,h2,h3⟩:=h
 exact⟨st,L,F,h1,h2,zbt.trans hs h3⟩
theorem zq8 {ops:Array Oper}{o:Oper}{j:Nat}{want:Bool}{t:Tmp}{x:Bool}(hg:o.guard=some (j,want))(ht:(ops[j]?).bind (·.dst)=some t)(hx:st.fr t= .fz (.b x))(h:Rel G N st a w L F)(htN:t<N):
  Region.wanted o (yielded ops a.tmps)=(x==want):=by
 have h1:=h.fr t
 rw[hx]at h1
 have h2:=vb h1
 have hlt:t<a.tmps.size:=by rw[h.size];exact htN
 have h3:a.tmps[t]?=some (.bool x):=by
  rw[←h2];simp[Array.getD_eq_getD_getElem?,hlt]
 simp[Region.wanted,hg,yielded,ht,h3]
theorem zzJ (h:Rel G N st a w L F){t:Tmp}{x:Bool}(hx:st.fr t= .fz (.b x)):t<N:=by
 rcases Nat.lt_or_ge t N with h'|h'
 ·exact h'
 ·have h1:=h.fr t
  rw[hx]at h1
  have h2:=vb h1
  rw[Array.getD_eq_getD_getElem?,Array.getElem?_eq_none (by rw[h.size];exact h')]at h2
  simp[undef]at h2
theorem zvW {c:Code}{Q':Exit→St→Prop}(h:W P G N c Q st)(hq:∀e st,Q e st→Q' e st):W P G N c Q' st:=
 fun a w L F hr=>wp_mono (h a w L F hr) fun e _ _ hs=>hs.mono (hq e)
theorem zvX (h:Q .normal st):W P G N .skip Q st:=fun _ _ L F hr=>wp_skip ⟨st,L,F,h,hr,zbt.refl _ _ _ _ _⟩
theorem zvU {id:Nat}(h:Q (.exit id) st):W P G N (.exit id) Q st:=fun _ _ L F hr=>wp_exit ⟨st,L,F,h,hr,zbt.refl _ _ _ _ _⟩
theorem zzs (h:Q .ret st):W P G N .ret Q st:=fun _ _ L F hr=>wp_ret ⟨st,L,F,h,hr,zbt.refl _ _ _ _ _⟩
def zET (P:Program)(G:Nat→List FD)(N:Nat)(b:Code)(Q:Exit→St→Prop):Exit→St→Prop
 | .normal,st=>W P G N b Q st
 |e,st=>Q e st
theorem zzt {c b:Code}(h:W P G N c (zET P G N b Q) st):W P G N (.seq c b) Q st:=by
 intro a w L F hr
 refine wp_seq (wp_mono (h a w L F hr) fun e a1 w1 hs=>?_)
 cases e with
 |normal=>
  obtain⟨st1,L1,F1,h1,h2,h3⟩:=hs
  exact wp_mono (h1 a1 w1 L1 F1 h2) fun e _ _ hs=>hs.trans h3
 |_=>exact hs
theorem zvT {c:Operand}{x y:Code}{t:Bool}(hc:st.ev G c= .fz (.b t))(h1:t=true→W P G N x Q st)(h2:t=false→W P G N y Q st):W P G N (.cond c x y) Q st:=by
 intro a w L F hr
 have:=hr.ev c
 rw[hc]at this
 exact wp_cond_split (vb this) (fun h=>h1 h a w L F hr) (fun h=>h2 h a w L F hr)
def zg3 (id:Nat)(Q:Exit→St→Prop):Exit→St→Prop
 | .exit i,st=>if i=id then Q .normal st else Q (.exit i) st
 |e,st=>Q e st
theorem ztq {id:Nat}{c:Code}(h:W P G N c (zg3 id Q) st):W P G N (.block id c) Q st:=by
 intro a w L F hr
 refine wp_block (wp_mono (h a w L F hr) fun e a1 w1 hs=>?_)
 cases e with
 |exit i=>
  by_cases e:i=id
  ·simp only[Exit.inBlock,if_pos e];exact hs.mono fun st h=>by simpa[zg3,e]using h
  ·simp only[Exit.inBlock,if_neg e];exact hs.mono fun st h=>by simpa[zg3,e]using h
 |_=>exact hs
def zeu (G:Nat→List FD)(N:Nat)(st st':St):Prop:=
 ∀a w L F,Rel G N st a w L F→∃L' F',Rel G N st' a w L' F'∧zhZ st w L F st' w L' F'
theorem zeu.refl (st:St):zeu G N st st:=fun _ _ L F h=>⟨L,F,h,zbt.refl _ _ _ _ _⟩
theorem zeu.trans {s1 s2 s3:St}(h1:zeu G N s1 s2)(h2:zeu G N s2 s3):zeu G N s1 s3:=fun a w L F h=>
 let⟨_,_,h3,h4⟩:=h1 a w L F h
 let⟨L2,F2,h5,h6⟩:=h2 a w _ _ h3
 ⟨L2,F2,h5,zbt.trans h4 h6⟩
theorem zvY {c:Code}{st':St}(hw:zeu G N st st')(h:W P G N c Q st'):W P G N c Q st:=by
 intro a w L F hr
 obtain⟨L1,F1,h1,h2⟩:=hw a w L F hr
 exact wp_mono (h a w L1 F1 h1) fun e _ _ hs=>hs.trans h2
def zxn (G:Nat→List FD)(N:Nat){ι:Type}(I:ι→St)(μ:ι→Nat)(i:ι)(Q:Exit→St→Prop):Exit→St→Prop
 | .normal,st=>∃i',μ i'<μ i∧zeu G N st (I i')
 |e,st=>Q e st
theorem zvV {c:Code}{ι:Type}(I:ι→St)(μ:ι→Nat)(i:ι)(h0:zeu G N st (I i))(round:∀i,W P G N c (zxn G N I μ i Q) (I i)):W P G N (.loop c) Q st:=by
 refine zvY h0 ?_
 clear h0
 intro a w L F hr b k cs
 have key:∀n i a w L F,μ i=n→Rel G N (I i) a w L F→
   ∃e a' w',Sat G N (I i) w L F (Q e) a' w'∧Arrives P (lone (b.at a (.code c:: .inLoop c::k)) cs w) b k cs e a' w':=by
  intro n
  induction n using Nat.strongRecOn with
  |_ n ih=>
   intro i a w L F hn hI
   obtain⟨e,a₁,w₁,hq,harr⟩:=round i a w L F hI b (.inLoop c::k) cs
   cases e with
   |normal=>
    obtain⟨st1,L1,F1,⟨i',hlt,hw⟩,h2,h3⟩:=hq
    obtain⟨L2,F2,h4,h5⟩:=hw _ _ _ _ h2
    obtain⟨e₂,a₂,w₂,hq₂,harr₂⟩:=ih (μ i') (hn▸hlt) i' a₁ w₁ L2 F2 rfl h4
    exact⟨e₂,a₂,w₂,(hq₂.trans h5).trans h3,.of_steps (Steps.trans harr (.one step_inLoop)) harr₂⟩
   |exit id=>exact⟨_,a₁,w₁,hq,.pass (x:= .inLoop c) rfl (fun _ _=> .inl (by simp)) harr⟩
   |goto l=>exact⟨_,a₁,w₁,hq,.pass (x:= .inLoop c) rfl (fun _ _=> .inl (by simp)) harr⟩
   |ret=>exact⟨_,a₁,w₁,hq,.pass (x:= .inLoop c) rfl (fun _ _=> .inl (by simp)) harr⟩
   |panic ch=>exact⟨_,a₁,w₁,hq,.pass (x:= .inLoop c) rfl (fun _ _=> .inl (by simp)) harr⟩
   |outgrown=>exact⟨_,a₁,w₁,hq,.pass (x:= .inLoop c) rfl (fun _ _=> .inl (by simp)) harr⟩
 obtain⟨e,a',w',hq,harr⟩:=key _ i a w L F rfl hr
 exact⟨e,a',w',hq,.of_steps (.one step_loop) harr⟩
def zjK (P:Program)(st:St):ResultVar→Option (D×Prop)
 | .tmp t=>some (st.fr t,True)
 | .cell t ty=>zed P st.H ty (st.fr t)
def zdS (P:Program)(st:St):List ResultVar→Option (List D×Prop)
 |[]=>some ([],True)
 |r::rs=>
  match zjK P st r,zdS P st rs with
  |some (d,c),some (ds,cs)=>some (d::ds,c∧cs)
  |_,_=>none
def one (ds:List D):D:=
 match ds with
 |[d]=>d
 |ds=> .tup ds
def zxB (tmps:Array Value):ResultVar→Sem Value
 | .tmp t=>pure (tmps.getD t undef)
 | .cell x t=>do loadVar t (←asAddr (tmps.getD x undef))
theorem zoA (fn:Func)(tmps:Array Value):results fn tmps=(do let vs ←fn.results.mapM (zxB tmps);pure (if h:vs.size=1 then vs[0]else .tuple vs)):=by
 unfold results
 congr 1
theorem zsy (h:Rel G N st a w L F){r:ResultVar}{d c}(hr:zjK P st r=some (d,c))(hc:c):
  ∃v,(zxB a.tmps r).run P w= .ok v w∧zaj w L F (Ub st.n) d v:=by
 cases r with
 |tmp t=>
  simp only[zjK,Option.some.injEq,Prod.mk.injEq]at hr
  obtain⟨rfl,_⟩:=hr
  exact⟨_,rfl,h.fr t⟩
 |cell t ty=>
  simp only[zjK]at hr
  obtain⟨v,h1,h2⟩:=zkw hr hc h.ok (h.fr t)
  refine⟨v,?_,h2⟩
  have hp:∃p,a.tmps.getD t undef= .pointer (some p):=by
   have h3:=h.fr t
   unfold zed at hr
   split at hr
   ·cases hr
   ·split at hr
    ·rename_i hx;rw[hx]at h3;simp only[zaj]at h3;obtain⟨b,off,e,_⟩:=h3;exact⟨_,e⟩
    ·rename_i hx;rw[hx]at h3;simp only[zaj]at h3;obtain⟨_,_,e⟩:=h3;exact⟨_,e⟩
    ·cases hr
  obtain⟨p,hp⟩:=hp
  rw[hp]at h1
  simp only[zxB]
  rw[hp]
  simpa[Instr.loadAt,Instr.sureAddr,asAddr]using h1
theorem zne (h:Rel G N st a w L F):∀{rs:List ResultVar} {ds c},zdS P st rs=some (ds,c)→c→
  ∃vs:List Value,(rs.mapM (zxB a.tmps)).run P w= .ok vs w∧zaq w L F (Ub st.n) ds vs
 |[],ds,c,hr,_=>by
  simp only[zdS,Option.some.injEq,Prod.mk.injEq]at hr
  obtain⟨rfl,_⟩:=hr
  exact⟨[],by simp,by simp[zaq]⟩
 |r::rs,ds,c,hr,hc=>by
  simp only[zdS]at hr
  split at hr
  ·rename_i d c1 ds1 c2 h1 h2
   simp only[Option.some.injEq,Prod.mk.injEq]at hr
   obtain⟨rfl,rfl⟩:=hr
   obtain⟨v,g1,g2⟩:=zsy h h1 hc.1
   obtain⟨vs,g3,g4⟩:=zne h h2 hc.2
   exact⟨v::vs,by rw[List.mapM_cons,Sem.run_bind,g1];simp[g3],by simp only[zaq];exact⟨g2,g4⟩⟩
  ·cases hr
theorem zoB (h:Rel G N st a w L F){fn:Func}{ds c}(hr:zdS P st fn.results.toList=some (ds,c))(hc:c):
  ∃v,(results fn a.tmps).run P w= .ok v w∧zaj w L F (Ub st.n) (one ds) v:=by
 obtain⟨vs,h1,h2⟩:=zne h hr hc
 have hm:(fn.results.mapM (zxB a.tmps)).run P w= .ok vs.toArray w:=by
  rw[←Array.toArray_toList (xs:=fn.results),List.mapM_toArray,Sem.run_map,h1]
  rfl
 rw[zoA,Sem.run_bind,hm]
 simp only[Result.andThen_ok,Sem.run_pure]
 by_cases hs:vs.toArray.size=1
 ·rw[dif_pos hs]
  refine⟨_,rfl,?_⟩
  match vs,ds,hs,h2 with
  |[v],[d],_,h2=>simpa[one,zaq]using h2
 ·rw[dif_neg hs]
  refine⟨_,rfl,?_⟩
  have:one ds= .tup ds:=by
   have hl:=((zaq.iff _ _).1 h2).1
   match ds with
   |[]=>rfl
   |[d]=>simp at hs;simp at hl;omega
   |_::_::_=>rfl
  rw[this]
  simp only[zaj]
  exact⟨vs,rfl,h2⟩
def zzo (P:Program)(fn:Func)(Q:D→zau→Nat→Prop):Exit→St→Prop
 | .normal,st| .ret,st=>
  match zdS P st fn.results.toList with
  |some (ds,c)=>c∧Q (one ds) st.H st.n
  |none=>False
 |_,_=>False
def zi4 (args:List D):Nat→D:=fun t=>args.getD t .junk
theorem zlE {f:FuncId}{fn:Func}{c:Code}{args:List D}{H:zau}{n:Nat}{Q:D→zau→Nat→Prop}(hcall:zat P f)(hf:P.funcs[f]?=some fn)(hb:fn.body=some c){N:Nat}(hN:fn.ntmps=N)(hl:args.length≤N)
  (h:W P G N c (zzo P fn Q) ⟨zi4 args,H,n⟩):zaE P G f args H n Q:=by
 refine⟨hcall,fun w L F vs hok hvs=>?_⟩
 refine calls_of_wp hf hb ?_
 have hvl:=((zaq.iff _ _).1 hvs)
 have hrel:Rel G N ⟨zi4 args,H,n⟩ {tmps:=vs.toArray++Array.replicate (fn.ntmps-vs.toArray.size) undef,defers:=[]} w L F:=by
  refine⟨hok,by simp;omega,fun t=>?_,rfl⟩
  simp only[zi4]
  by_cases ht:t<args.length
  ·have:=hvl.2 t ht
   rw[Array.getD_eq_getD_getElem?,Array.getElem?_append_left (by simp;omega)]
   simpa[List.getD_eq_getElem?_getD]using this
  ·have:args.getD t .junk= .junk:=by rw[List.getD_eq_getElem?_getD,List.getElem?_eq_none (by omega)];rfl
   rw[this];simp[zaj]
 refine wp_mono (h _ w L F hrel) fun e a' w' hs=>?_
 obtain⟨st',L',F',hq,hr,hst⟩:=hs
 have key:∀(hq:(match zdS P st' fn.results.toList with
  |some (ds,c)=>c∧Q (one ds) st'.H st'.n
  |none=>False)),a'.defers=[]∧∃v,(results fn a'.tmps).run P w'= .ok v w'∧∃v0 d H' n' L' F',Ending.returned v= .returned v0∧Q d H' n'∧OkW G w' L' F' (Ub n') H'∧zaj w' L' F' (Ub n') d v0∧zbt H w L F (Ub n) H' w' L' F' (Ub n'):=by
  intro hq
  split at hq
  ·rename_i ds c' hds
   obtain⟨v,g1,g2⟩:=zoB hr hds hq.1
   exact⟨hr.nd,v,g1,v,one ds,st'.H,st'.n,L',F',rfl,hq.2,hr.ok,g2,hst⟩
  ·exact hq.elim
 cases e with
 |normal=>exact key hq
 |ret=>exact key hq
 |_=>exact hq.elim
end
end Go.Abs
namespace Go.Abs
open Go
def D.val (d:D):Option D:=
 match d with
 | .tup ds=>(D.toFDs ds).map fun xs=> .tup (xs.map .fz)
 |d=>d.toFD.map .fz
def H0:zau:=fun _=>none
section
variable {P:Program} {G:Nat→List FD} {N:Nat} {st:St} {w:World} {L L':Loc} {F:Nat→Nat→Prop} {U U':Id→Prop}
theorem zaq.of_toFDs {ds:List D}{vs:List Value}{xs:List FD}(h:zaq w L F U ds vs)(e:D.toFDs ds=some xs):zaq w L' F U' (xs.map .fz) vs:=by
 obtain⟨h1,h2⟩:=zaq.toFDs ds vs xs h e
 rw[zaq.iff]
 refine⟨by simpa using h1,fun j hj=>?_⟩
 have hj':j<xs.length:=by simpa using hj
 rw[zbT _ _ hj']
 simpa only[zaj]using h2 j hj'
theorem zaj.val {d r:D}{v:Value}(h:zaj w L F U d v)(e:D.val d=some r):zaj w L' F U' r v:=by
 unfold D.val at e
 split at e
 ·rename_i ds
  simp only[Option.map_eq_some_iff]at e
  obtain⟨xs,e,rfl⟩:=e
  simp only[zaj]at h ⊢
  obtain⟨vs,rfl,h⟩:=h
  exact⟨vs,rfl,h.of_toFDs e⟩
 ·simp only[Option.map_eq_some_iff]at e
  obtain⟨x,e,rfl⟩:=e
  simpa only[zaj]using zaj.toFD _ _ _ h e
theorem zh9 {f:FuncId}{args:List D}{xs:List FD}{r:D}{H:zau}{n:Nat}(ha:D.toFDs args=some xs)
  (h:zaE P G f (xs.map .fz) H0 0 (fun d _ _=>D.val d=some r)):zaE P G f args H n (fun d H' n'=>d=r∧H'=H∧n'=n):=by
 refine⟨h.1,fun w L F vs hok hvs=>?_⟩
 refine(h.2 w L F vs ⟨hok.fb,(fun _ _ h=>nomatch h),(fun _ _ _ _ h=>nomatch h),hok.glob⟩ (hvs.of_toFDs ha)).mono fun e w' he=>?_
 obtain⟨v,d,H',n',L',F',rfl,hd,g1,g2,g3⟩:=he
 have nb:∀b,¬Blk H0 L b:=by rintro b ⟨_,_,h,_⟩;cases h
 have no:∀b k,¬Own H0 L b k:=by rintro b k ⟨_,_,h,_⟩;cases h
 have ext:Ext w L F (Ub n) w' L F' (Ub n):=⟨fun _ h=>h,fun _ _=>rfl,g3.f,fun b k hb=>g3.keepc b k (hok.fb b k hb) (no b k),g3.size,g3.shape⟩
 refine⟨v,r,H,n,L,F',rfl,⟨rfl,rfl,rfl⟩,⟨g1.fb,?_,hok.inj,g1.glob⟩,g2.val hd,?_⟩
 ·intro id o ho
  obtain⟨h1,h2⟩:=hok.live id o ho
  refine⟨h1,h2.ext ext h1 fun hv=>?_⟩
  have hlt:=hok.blk_lt ho hv
  refine⟨g3.keep _ hlt (nb _),fun k hk hF=>?_⟩
  rcases g3.fnew _ _ hF with h|h|h
  ·exact(zaC h2 hv).1 k hk h
  ·omega
  ·exact no _ _ h
 ·refine⟨fun _ h=>h,fun _ _=>rfl,g3.f,g3.size,fun b hb _=>g3.keep b hb (nb b),fun b k hb _=>g3.keepc b k hb (no b k),g3.shape,fun b k hb=>?_,fun b k hb=> .inr hb,g3.os,g3.tape,g3.output,g3.drawn⟩
  rcases g3.fnew b k hb with h|h|h
  ·exact .inl h
  ·exact .inr (.inl h)
  ·exact absurd h (no b k)
theorem zaQ {f:FuncId}{args:List D}{H:zau}{n:Nat}{Q Q':D→zau→Nat→Prop}(h:zaE P G f args H n Q)(hq:∀d H n,Q d H n→Q' d H n):zaE P G f args H n Q':=
 ⟨h.1,fun w L F vs hok hvs=>(h.2 w L F vs hok hvs).mono fun _ _ ⟨v,d,H',n',L',F',e,hQ,g⟩=>⟨v,d,H',n',L',F',e,hq _ _ _ hQ,g⟩⟩
abbrev Tbl:=FuncId→Option (List FD→Option (D×Prop))
def zam (P:Program)(G:Nat→List FD)(T:Tbl):Prop:=
 ∀f t xs r c,T f=some t→t xs=some (r,c)→c→zaE P G f (xs.map .fz) H0 0 (fun d _ _=>D.val d=some r)
def zmS (T:Tbl)(f:D)(args:List D):Option (D×Prop):=
 match f with
 | .fn g caps=>match T g,D.toFDs (args++caps)with
  |some t,some xs=>t xs
  |_,_=>none
 |_=>none
def zbY (P:Program)(t:TypeId)(n:Nat)(is:List Nat)(ds:List D):Option (D×Prop):=
 match zaw P t,D.toFDs ds with
 |some te,some xs=>some (.full xs,is=List.range n∧zbi xs te.size∧n*te.size≤2^24∧n≤zbj)
 |_,_=>none
def zkC:D→Option (List FD)
 | .full xs=>some xs
 |_=>none
def zqG (d:D):Option (List FD):=
 match d.toFD with
 |some (.sl ys)=>some ys
 |_=>none
def zex (P:Program)(t u:TypeId)(x y:D):Option (D×Prop):=
 match zaw P t,zas P u,zkC x,zqG y with
 |some te,some ui,some xs,some ys=>if ui.isSlice then some (.fz (.sl (xs++ys)),zbi xs te.size∧zbi ys te.size∧fits (xs.length+ys.length) te.bytes)else none
 |_,_,_,_=>none
def zbh (P:Program)(T:Tbl)(o:Oper)(ev:Operand→D)(H:zau):Option (D×Prop):=
 match zbe P o ev H with
 |some r=>some r
 |none=>
  match o.op with
  | .buildSlice t n ps=>zbY P t n (ps.toList.map (·.1)) (ps.toList.map fun p=>ev p.2)
  | .call c=>
   match c.callee with
   | .value f=>zmS T (ev f) (c.args.toList.map ev)
   | .builtin .append=>
    match c.args.toList,c.argTypes.toList with
    |[x,y],[t,u]=>zex P t u (ev x) (ev y)
    |_,_=>none
   |_=>none
  |_=>none
theorem zjP {H:zau}{te:TI}{y:D}{ys:List FD}(h:zqG y=some ys):∃src c,zbn H te y=some (ys.length,src,c):=by
 unfold zqG at h
 split at h
 ·rename_i zs hz
  obtain rfl:=Option.some.inj h
  cases y<;>simp[D.toFD]at hz
  ·subst hz;exact⟨_,_,rfl⟩
  ·subst hz;exact⟨_,_,rfl⟩
  ·subst hz;exact⟨_,_,rfl⟩
 ·cases h
theorem zky {T:Tbl}(hT:zam P G T){o:Oper}{tag0:Nat}{K:St→Prop}{d:D}{c:Prop}(hd:za2 N o.dst=true)(h:zbh P T o (st.ev G) st.H=some (d,c))(hc:c)(hK:K (st.put o.dst d)):
  zcN P G N tag0 o st K:=by
 unfold zbh at h
 unfold zcN
 split at h
 ·rename_i r hr
  rw[hr]
  obtain⟨d',c'⟩:=r
  simp only[Option.some.injEq,Prod.mk.injEq]at h
  obtain⟨rfl,rfl⟩:=h
  exact⟨hd,hc,hK⟩
 ·rename_i hn
  rw[hn]
  refine⟨hd,?_⟩
  split at h
  ·rename_i t n ps heq
   rw[heq]
   simp only[zbY]at h
   simp only
   split at h
   ·rename_i te xs h1 h2
    rw[h1,h2]
    simp only[Option.some.injEq,Prod.mk.injEq]at h
    obtain⟨rfl,rfl⟩:=h
    exact .inl ⟨hc.1,hc.2.1,hc.2.2.1,hc.2.2.2,hK⟩
   ·cases h
  ·rename_i cl heq
   rw[heq]
   simp only
   split at h
   ·rename_i f hcal
    rw[hcal]
    simp only
    unfold zmS at h
    split at h
    ·rename_i g caps hf
     rw[hf]
     simp only
     split at h
     ·rename_i t xs ht hxs
      refine zaQ (zh9 hxs (hT _ _ _ _ _ ht h hc)) ?_
      rintro d' H' n' ⟨rfl,rfl,rfl⟩
      exact hK
     ·cases h
    ·cases h
   ·rename_i hcal
    rw[hcal]
    simp only
    split at h
    ·rename_i x y t u ha ht
     rw[ha,ht]
     simp only
     unfold zex at h
     split at h
     ·rename_i te ui xs ys h1 h2 h3 h4
      split at h
      ·rename_i hs
       simp only[Option.some.injEq,Prod.mk.injEq]at h
       obtain⟨rfl,rfl⟩:=h
       unfold zcv
       rw[h1,h2]
       simp only
       have hx:st.ev G x= .full xs:=by
        revert h3;cases st.ev G x<;>simp[zkC]
       obtain⟨src,cc,hsrc⟩:=zjP (H:=st.H) (te:=te) h4
       rw[hs,hsrc,hx]
       simp only
       refine .inr (.inl ⟨ys,?_,hc.1,hc.2.1,hc.2.2,hK⟩)
       unfold zqG at h4
       split at h4
       ·rename_i zs hz;rw[hz];rw[Option.some.inj h4]
       ·cases h4
      ·cases h
     ·cases h
    ·cases h
   ·cases h
  ·cases h
end
end Go.Abs
namespace Go.Abs
open Go
def frL:List (Nat×D)→Nat→D
 |[],_=> .junk
 |(k,d)::l,t=>if t=k then d else frL l t
def Req (c k:Prop):Prop:=c∧k
def zdn (b:Bool)(x y:Prop):Prop:=(b=true→x)∧(b=false→y)
def Bi {α:Type}(r:Option α)(k:α→Prop):Prop:=match r with|some a=>k a|none=>False
def ob {α β:Type}(r:Option α)(k:α→Option β):Option β:=match r with|some a=>k a|none=>none
def Chk (b:Bool)(k:Prop):Prop:=b=true∧k
theorem zro {k:Prop}:Req True k=k:=by simp[Req]
theorem zrl {k:Prop}:Chk true k=k:=by simp[Chk]
theorem znx {x y:Prop}:zdn true x y=x:=by simp[zdn]
theorem zlA {x y:Prop}:zdn false x y=y:=by simp[zdn]
theorem zjB {α β:Type}{a:α}{k:α→Option β}:ob (some a) k=k a:=rfl
theorem zr2 {k t:Nat}{d:D}{l:List (Nat×D)}:frL ((k,d)::l) t=if t=k then d else frL l t:=rfl
theorem zt0 {t:Nat}:frL [] t= .junk:=rfl
theorem Req.i {c k:Prop}(h:c)(h':c→k):Req c k:=⟨h,h' h⟩
theorem zdn.i {b:Bool}{x y:Prop}(h:b=true→x)(h':b=false→y):zdn b x y:=⟨h,h'⟩
theorem zst {l:List (Nat×D)}{H:zau}{n t:Nat}{d:D}:St.put ⟨frL l,H,n⟩ (some t) d=⟨frL ((t,d)::l),H,n⟩:=by
 simp only[St.put,St.mk.injEq,and_true]
 funext j
 simp only[upd,frL]
theorem zss {l:List (Nat×D)}{H:zau}{n:Nat}{d:D}:St.put ⟨frL l,H,n⟩ none d=⟨frL l,H,n⟩:=rfl
theorem zxs {l:List (Nat×D)}{H:zau}{n:Nat}{id:Id}{o:O}{dst:Option Tmp}{d:D}:St.new ⟨frL l,H,n⟩ id o dst d=
  {St.put ⟨frL l,H,n⟩ dst d with H:=zaK H id (some o),n:=n+1}:=rfl
theorem zEY {fr:Nat→D}{H:zau}{n:Nat}:St.H ⟨fr,H,n⟩=H:=rfl
theorem zEZ {fr:Nat→D}{H:zau}{n:Nat}:St.n ⟨fr,H,n⟩=n:=rfl
theorem zBa {fr:Nat→D}{H:zau}{n:Nat}:St.fr ⟨fr,H,n⟩=fr:=rfl
theorem zwn {G:Nat→List FD}{fr:Nat→D}{H:zau}{n t:Nat}:St.ev G ⟨fr,H,n⟩ (.tmp t)=fr t:=rfl
theorem zrW {G:Nat→List FD}{st:St}{v:Value}:St.ev G st (.const v)=zfc v:=rfl
theorem ztP {G:Nat→List FD}{st:St}{f:FuncId}:St.ev G st (.func f)= .fn f []:=rfl
theorem zlR {b:Bool}:zfc (.bool b)= .fz (.b b):=rfl
theorem znP {k:IntKind}{n:Int}:zfc (.int k n)=if zyc k n then .fz (.i k n)else .junk:=rfl
theorem zi9 {s:ByteArray}:zfc (.string s)=if s.data.toList.length≤1000000 then .fz (.s s.data.toList)else .junk:=rfl
theorem znQ:zfc (.slice none 0 0)= .full []:=rfl
theorem zlS:zfc .nilFunc= .fz .nilf:=rfl
theorem zsL {H:zau}{i j:Id}{o:Option O}:zaK H i o j=if j=i then o else H j:=rfl
theorem zq1 {H:zau}{i:Id}{o o':Option O}:zaK (zaK H i o) i o'=zaK H i o':=by
 funext j;simp only[zaK];split<;>rfl
theorem znX {N t:Nat}:za2 N (some t)=decide (t<N):=rfl
theorem znW {N:Nat}:za2 N none=true:=rfl
section
variable {P:Program} {H:zau} {t u:TypeId} {x y i:D}
def zvD (ti:TI)(H:zau):D→Option (D×Prop)
 | .rp xs=>some (if ti.agg then .fz (.agg (xs.take ti.size))else .fz (xs.getD 0 .nilf),ti.size≤xs.length∧(ti.agg=false→ti.size=1))
 | .ptr id k=>ob (H id) fun o=>some (if ti.agg then .agg ((o.cells.drop k).take ti.size)else o.cells.getD k .junk,
     k+ti.size≤o.cells.length∧o.virt=false∧(ti.agg=false→ti.size=1))
 |_=>none
theorem zhf:zed P H t x=ob (zas P t) fun ti=>zvD ti H x:=by
 unfold zed ob
 cases zas P t with
 |none=>rfl
 |some ti=>
  cases x<;>try rfl
  rename_i id k
  simp only[zvD,ob]
  cases H id<;>rfl
def faD (off size:Nat):D→Option (D×Prop)
 | .ptr id k=>some (.ptr id (k+off),size≠0)
 | .rp xs=>some (.rp (xs.drop off),size≠0)
 |_=>none
def fieldsOf:Und→Nat→Option (Nat×TypeId)
 | .struct fs,i=>fs[i]?
 |_,_=>none
theorem zh2 {i:Nat}:zbw P t x i=ob (zas P t) fun ti=>ob (fieldsOf ti.und i) fun f=>ob (zas P f.2) fun fi=>faD f.1 fi.size x:=by
 unfold zbw ob
 cases zas P t with
 |none=>rfl
 |some ti=>
  obtain⟨_,_,_,und,_,_,_⟩:=ti
  cases und<;>try rfl
  rename_i fs
  simp only[fieldsOf]
  cases fs[i]? with
  |none=>rfl
  |some f=>
   obtain⟨off,ft⟩:=f
   simp only
   cases zas P ft with
   |none=>rfl
   |some fi=>cases x<;>rfl
def fD (off size:Nat)(agg:Bool):D→Option (D×Prop)
 | .agg ds=>some (if agg then .agg ((ds.drop off).take size)else ds.getD off .junk,off+size≤ds.length∧(agg=false→size=1))
 | .fz (.agg ds)=>some (if agg then .fz (.agg ((ds.drop off).take size))else .fz (ds.getD off .nilf),off+size≤ds.length∧(agg=false→size=1))
 |_=>none
theorem zn5 {i:Nat}:zea P t x i=ob (zas P t) fun ti=>ob (fieldsOf ti.und i) fun f=>ob (zas P f.2) fun fi=>fD f.1 fi.size fi.agg x:=by
 unfold zea ob
 cases zas P t with
 |none=>rfl
 |some ti=>
  obtain⟨_,_,_,und,_,_,_⟩:=ti
  cases und<;>try rfl
  rename_i fs
  simp only[fieldsOf]
  cases fs[i]? with
  |none=>rfl
  |some f=>
   obtain⟨off,ft⟩:=f
   simp only
   cases zas P ft with
   |none=>rfl
   |some fi=>
    cases x<;>try rfl
    rename_i z
    cases z<;>rfl
def zpJ:Und→Option TypeId
 | .slice e=>some e
 |_=>none
theorem zpK:zaw P t=ob (zas P t) fun ti=>ob (zpJ ti.und) fun e=>zas P e:=by
 unfold zaw ob
 cases zas P t with
 |none=>rfl
 |some ti=>
  obtain⟨_,_,_,und,_,_,_⟩:=ti
  cases und<;>rfl
def iaD (size:Nat)(x y:D):Option (D×Prop):=
 match x,y with
 | .fz (.sl xs),.fz (.i _ n)=>some (.rp (xs.getD n.toNat .nilf).cells,0≤n∧n<xs.length∧(xs.getD n.toNat .nilf).cells.length=size)
 | .full xs,.fz (.i _ n)=>some (.rp (xs.getD n.toNat .nilf).cells,0≤n∧n<xs.length∧(xs.getD n.toNat .nilf).cells.length=size)
 | .ow _ _ xs,.fz (.i _ n)=>some (.rp (xs.getD n.toNat .nilf).cells,0≤n∧n<xs.length∧(xs.getD n.toNat .nilf).cells.length=size)
 | .arr id es s len,.fz (.i _ n)=>some (.ptr id (s+n.toNat*es),0≤n∧n<len∧es=size)
 |_,_=>none
theorem zh4:zbx P t x y=ob (zaw P t) fun te=>iaD te.size x y:=by
 unfold zbx ob
 cases zaw P t with
 |none=>rfl
 |some te=>
  have key:∀z:FD,(∀k n,z≠ .i k n)→iaD te.size x (.fz z)=none:=by
   intro z hz
   cases z<;>first|exact absurd rfl (hz _ _)|(cases x<;>(try rfl)<;>rename_i q<;>cases q<;>rfl)
  cases y with
  |fz z=>
   cases z with
   |i k n=>cases x<;>(try rfl)<;>rename_i q<;>cases q<;>rfl
   |_=>exact(key _ (by simp)).symm
  |_=>cases x<;>(try rfl)<;>rename_i q<;>cases q<;>rfl
def zup (str slice:Bool):D→Option (D×Prop)
 | .fz (.s l)=>if str then some (.fz (.i .i64 l.length),True)else none
 | .fz (.sl xs)=>if slice then some (.fz (.i .i64 xs.length),True)else none
 | .full xs=>if slice then some (.fz (.i .i64 xs.length),True)else none
 | .ow _ _ xs=>if slice then some (.fz (.i .i64 xs.length),True)else none
 | .arr _ _ _ len=>if slice then some (.fz (.i .i64 len),True)else none
 |_=>none
theorem zrS:zkv P t x=ob (zas P t) fun ti=>zup ti.isStr ti.isSlice x:=by
 unfold zkv ob
 cases zas P t with
 |none=>cases x<;>(try rfl)<;>rename_i z<;>cases z<;>rfl
 |some ti=>cases x<;>(try rfl)<;>rename_i z<;>cases z<;>rfl
theorem zn8 {l:List UInt8}{k:IntKind}{n:Int}:zec P t (.fz (.s l)) (.fz (.i k n))=ob (zas P t) fun ti=>if ti.isStr then some (.fz (.i .u8 ((l.getD n.toNat 0).toNat:Int)),0≤n∧n<l.length)else none:=by
 unfold zec ob;cases zas P t<;>rfl
theorem zd8 {te:TI}(h:zaw P t=some te):∃ti,zas P t=some ti:=by
 unfold zaw at h
 cases ht:zas P t with
 |none=>rw[ht]at h;cases h
 |some ti=>exact⟨ti,rfl⟩
theorem zl1 {l:List UInt8}{lo hi:Option D}:zaN P t (.fz (.s l)) lo hi none=ob (zas P t) fun ti=>ob (zbs lo) fun a=>ob (zaY l.length hi) fun b=>
  if ti.isStr then some (.fz (.s ((l.take b.toNat).drop a.toNat)),0≤a∧a≤b∧b≤l.length)else none:=by
 unfold zaN ob
 cases zas P t with
 |none=>rfl
 |some ti=>
  simp only
  cases zbs lo<;>cases zaY l.length hi<;>simp
theorem zoc {xs:List FD}{lo hi:Option D}:zaN P t (.fz (.sl xs)) lo hi none=ob (zaw P t) fun te=>ob (zbs lo) fun a=>ob (zaY xs.length hi) fun b=>
  some (.fz (.sl (zbD xs a b)),0≤a∧a≤b∧b≤xs.length∧(a=0∨a=b∨(xs.getD a.toNat .nilf).cells.length=te.size)):=by
 unfold zaN ob
 cases he:zaw P t with
 |none=>cases zas P t<;>rfl
 |some te=>
  obtain⟨ti,ht⟩:=zd8 he
  rw[ht]
  simp only
  cases zbs lo<;>cases zaY xs.length hi<;>rfl
theorem zl0 {xs:List FD}{lo:Option D}{hi:D}{k:IntKind}{m:Int}:zaN P t (.fz (.sl xs)) lo (some hi) (some (.fz (.i k m)))=ob (zaw P t) fun te=>ob (zbs lo) fun a=>ob (zaY xs.length (some hi)) fun b=>
  some (.full (zbD xs a b),0≤a∧a≤b∧b≤xs.length∧m=b∧(a=0∨a=b∨(xs.getD a.toNat .nilf).cells.length=te.size)):=by
 unfold zaN ob
 cases he:zaw P t with
 |none=>cases zas P t<;>rfl
 |some te=>
  obtain⟨ti,ht⟩:=zd8 he
  rw[ht]
  simp only
  cases zbs lo<;>cases zaY xs.length (some hi)<;>rfl
theorem zob {oid:Id}{oes:Nat}{xs:List FD}{lo hi:Option D}:zaN P t (.ow oid oes xs) lo hi none=ob (zaw P t) fun te=>ob (zbs lo) fun a=>ob (zaY xs.length hi) fun b=>
  some (.fz (.sl (zbD xs a b)),0≤a∧a≤b∧b≤xs.length∧(a=0∨a=b∨(xs.getD a.toNat .nilf).cells.length=te.size)):=by
 unfold zaN ob
 cases he:zaw P t with
 |none=>cases zas P t<;>rfl
 |some te=>
  obtain⟨ti,ht⟩:=zd8 he
  rw[ht]
  simp only
  cases zbs lo<;>cases zaY xs.length hi<;>rfl
theorem zlZ {oid:Id}{oes:Nat}{xs:List FD}{lo:Option D}{hi:D}{k:IntKind}{m:Int}:zaN P t (.ow oid oes xs) lo (some hi) (some (.fz (.i k m)))=ob (zaw P t) fun te=>ob (zbs lo) fun a=>ob (zaY xs.length (some hi)) fun b=>
  some (.full (zbD xs a b),0≤a∧a≤b∧b≤xs.length∧m=b∧(a=0∨a=b∨(xs.getD a.toNat .nilf).cells.length=te.size)):=by
 unfold zaN ob
 cases he:zaw P t with
 |none=>cases zas P t<;>rfl
 |some te=>
  obtain⟨ti,ht⟩:=zd8 he
  rw[ht]
  simp only
  cases zbs lo<;>cases zaY xs.length (some hi)<;>rfl
theorem zkx {xs:List FD}{lo:Option D}:zaN P t (.full xs) lo none none=ob (zaw P t) fun te=>ob (zbs lo) fun a=>
  some (.full (zbD xs a xs.length),0≤a∧a≤xs.length∧(a=0∨a=xs.length∨(xs.getD a.toNat .nilf).cells.length=te.size)):=by
 unfold zaN ob
 cases he:zaw P t with
 |none=>cases zas P t<;>rfl
 |some te=>
  obtain⟨ti,ht⟩:=zd8 he
  rw[ht]
  simp only
  cases zbs lo<;>rfl
theorem zjj {xs:List FD}{lo:Option D}{hi:D}:zaN P t (.full xs) lo (some hi) none=ob (zaw P t) fun te=>ob (zbs lo) fun a=>ob (zaY xs.length (some hi)) fun b=>
  some (.fz (.sl (zbD xs a b)),0≤a∧a≤b∧b≤xs.length∧(a=0∨a=b∨(xs.getD a.toNat .nilf).cells.length=te.size)):=by
 unfold zaN ob
 cases he:zaw P t with
 |none=>cases zas P t<;>rfl
 |some te=>
  obtain⟨ti,ht⟩:=zd8 he
  rw[ht]
  simp only
  cases zbs lo<;>cases zaY xs.length (some hi)<;>rfl
theorem zji {xs:List FD}{lo:Option D}{hi:D}{k:IntKind}{m:Int}:zaN P t (.full xs) lo (some hi) (some (.fz (.i k m)))=ob (zaw P t) fun te=>ob (zbs lo) fun a=>ob (zaY xs.length (some hi)) fun b=>
  some (.full (zbD xs a b),0≤a∧a≤b∧b≤xs.length∧m=b∧(a=0∨a=b∨(xs.getD a.toNat .nilf).cells.length=te.size)):=by
 unfold zaN ob
 cases he:zaw P t with
 |none=>cases zas P t<;>rfl
 |some te=>
  obtain⟨ti,ht⟩:=zd8 he
  rw[ht]
  simp only
  cases zbs lo<;>cases zaY xs.length (some hi)<;>rfl
theorem zlY {id:Id}{es s len:Nat}{lo hi:Option D}:zaN P t (.arr id es s len) lo hi none=ob (zaw P t) fun te=>ob (zbs lo) fun a=>ob (zaY len hi) fun b=>
  some (.arr id es (s+a.toNat*es) (b-a).toNat,0≤a∧a≤b∧b≤len∧es=te.size):=by
 unfold zaN ob
 cases he:zaw P t with
 |none=>cases zas P t<;>rfl
 |some te=>
  obtain⟨ti,ht⟩:=zd8 he
  rw[ht]
  simp only
  cases zbs lo<;>cases zaY len hi<;>rfl
def znL (op:BinOp)(r:Bool)(c:Prop):Option (D×Prop):=
 match op with
 | .eql=>some (.fz (.b r),c)
 | .neq=>some (.fz (.b (!r)),c)
 |_=>none
theorem zrL {op:BinOp}{k k':IntKind}{a b:Int}:zcY P op t (.fz (.i k a)) (.fz (.i k' b))=zda op k k' a b:=rfl
theorem zrN {op:BinOp}{a b:List UInt8}:zcY P op t (.fz (.s a)) (.fz (.s b))=zfS op a b:=rfl
theorem zrI {op:BinOp}{a b:Bool}:zcY P op t (.fz (.b a)) (.fz (.b b))=ob (zas P t) fun ti=>if ti.isBool then znL op (a==b) True else none:=by
 unfold zcY ob;cases zas P t<;>rfl
theorem zcL {op:BinOp}{xs ys:List FD}:(match zas P t with
   |some ti=>
    match za7 ti.fund xs ys with
    |some (r,c)=>if ti.eqok then
      match op with
      | .eql=>some (D.fz (.b r),c)
      | .neq=>some (.fz (.b (!r)),c)
      |_=>none
     else none
    |none=>none
   |none=>none)=ob (zas P t) fun ti=>ob (za7 ti.fund xs ys) fun rc=>if ti.eqok then znL op rc.1 rc.2 else none:=by
 unfold ob
 cases zas P t with
 |none=>rfl
 |some ti=>simp only;cases za7 ti.fund xs ys<;>rfl
theorem zrK {op:BinOp}{xs ys:List FD}:zcY P op t (.fz (.agg xs)) (.fz (.agg ys))=ob (zas P t) fun ti=>ob (za7 ti.fund xs ys) fun rc=>if ti.eqok then znL op rc.1 rc.2 else none:=by
 rw[←zcL];rfl
theorem zrH {op:BinOp}{ds:List D}{ys:List FD}:zcY P op t (.agg ds) (.fz (.agg ys))=ob (D.toFDs ds) fun xs=>ob (zas P t) fun ti=>ob (za7 ti.fund xs ys) fun rc=>if ti.eqok then znL op rc.1 rc.2 else none:=by
 simp only[zcY,D.toFD]
 cases h:D.toFDs ds with
 |none=>rfl
 |some xs=>simp only[Option.map_some,zjB];exact zcL
theorem zrJ {op:BinOp}{ds:List D}{xs:List FD}:zcY P op t (.fz (.agg xs)) (.agg ds)=ob (D.toFDs ds) fun ys=>ob (zas P t) fun ti=>ob (za7 ti.fund xs ys) fun rc=>if ti.eqok then znL op rc.1 rc.2 else none:=by
 simp only[zcY,D.toFD]
 cases h:D.toFDs ds with
 |none=>rfl
 |some xs=>simp only[Option.map_some,zjB];exact zcL
theorem zrG {op:BinOp}{ds es:List D}:zcY P op t (.agg ds) (.agg es)=ob (D.toFDs ds) fun xs=>ob (D.toFDs es) fun ys=>ob (zas P t) fun ti=>ob (za7 ti.fund xs ys) fun rc=>if ti.eqok then znL op rc.1 rc.2 else none:=by
 simp only[zcY,D.toFD]
 cases h:D.toFDs ds with
 |none=>rfl
 |some xs=>
  simp only[Option.map_some,zjB]
  cases h:D.toFDs es with
  |none=>rfl
  |some xs=>simp only[Option.map_some,zjB];exact zcL
theorem zrP {s:TypeId}{k:IntKind}{n:Int}:zdd P s t (.fz (.i k n))=ob (zas P s) fun _=>ob (zas P t) fun ti=>ob ti.intK fun k=>some (.fz (.i k n),inK k n):=by
 unfold zdd ob
 cases zas P s with
 |none=>rfl
 |some si=>
  cases zas P t with
  |none=>rfl
  |some ti=>simp only;cases ti.intK<;>rfl
theorem zrO {s:TypeId}{n:Int}:zdd P s t (.full [.i .u8 n])=ob (zas P s) fun _=>ob (zas P t) fun ti=>ob (zaw P s) fun te=>ob te.intK fun k=>if k= .u8 then(if ti.isStr then some (.fz (.s [UInt8.ofNat n.toNat]),True)else none)else none:=by
 unfold zdd ob
 cases zas P s with
 |none=>rfl
 |some si=>
  cases zas P t with
  |none=>rfl
  |some ti=>
   simp only
   cases zaw P s with
   |none=>rfl
   |some te=>
    simp only[Option.bind_some]
    cases te.intK with
    |none=>rfl
    |some k=>cases k<;>rfl
theorem zrQ {s:TypeId}{l:List UInt8}:zdd P s t (.fz (.s l))=ob (zas P s) fun si=>ob (zas P t) fun ti=>if si.isStr&&ti.isStr then some (.fz (.s l),True)else none:=by
 unfold zdd ob
 cases zas P s<;>cases zas P t<;>rfl
def zgP:Und→Option (List (Nat×TypeId))
 | .struct fs=>some fs
 |_=>none
theorem zlW {fs:List (Nat×TypeId)}{cells:List D}{i:Nat}{d:D}{rest:List (Nat×D)}:zc0 P fs cells ((i,d)::rest)=
  ob fs[i]? fun f=>ob (zas P f.2) fun fi=>ob (zc0 P fs (zdA cells f.1 d.cs) rest) fun r=>some (r.1,(d.cs.length=fi.size∧f.1+fi.size≤cells.length)∧r.2):=by
 simp only[zc0]
 unfold ob
 cases fs[i]? with
 |none=>rfl
 |some f=>
  obtain⟨off,ft⟩:=f
  simp only
  cases zas P ft with
  |none=>rfl
  |some fi=>simp only;cases zc0 P fs (zdA cells off d.cs) rest<;>rfl
theorem zn7 {fs:List (Nat×TypeId)}{cells:List D}:zc0 P fs cells []=some (cells,True):=rfl
theorem zn3 {ps:List (Nat×D)}:zd9 P t ps=ob (zas P t) fun ti=>ob (zgP ti.und) fun fs=>if fs.all (fun p=>(zas P p.2).isSome)then ob (zc0 P fs ti.zero ps) fun r=>some (.agg r.1,r.2)else none:=by
 unfold zd9 ob
 cases zas P t with
 |none=>rfl
 |some ti=>
  obtain⟨_,_,z,und,_,_,_⟩:=ti
  cases und<;>try rfl
  rename_i fs
  simp only[zgP]
  split
  ·cases zc0 P fs z ps<;>rfl
  ·rfl
end
end Go.Abs
namespace Go.Abs
open Go
def Vv (N:Nat)(r:Option (D×Prop))(st:St)(dst:Option Tmp)(K:St→Prop):Prop:=
 Bi r fun dc=>Chk (za2 N dst) (Req dc.2 (K (st.put dst dc.1)))
def zdw:Operand→Bool
 | .const (.slice none 0 0)=>true
 |_=>false
def zuU (P:Program)(N:Nat)(op:BinOp)(t:TypeId)(x:D)(st:St)(dst:Option Tmp)(K:St→Prop):Prop:=
 match zaw P t,zdY x,op with
 |some _,some len,.eql=>za2 N dst=true∧∀b,(b=true→len=0)→K (st.put dst (.fz (.b b)))
 |some _,some len,.neq=>za2 N dst=true∧∀b,(b=false→len=0)→K (st.put dst (.fz (.b b)))
 |_,_,_=>False
def zsq:D→Option (Id×Nat)
 | .ptr id k=>some (id,k)
 |_=>none
def zwo:D→Option (FuncId×List D)
 | .fn f caps=>some (f,caps)
 |_=>none
def zme:D→Option Int
 | .fz (.i _ n)=>some n
 |_=>none
def zv0 (P:Program)(G:Nat→List FD)(t:TypeId)(a x:Operand)(st:St)(dst:Option Tmp)(K:St→Prop):Prop:=
 Bi (zas P t) fun ti=>Bi (zsq (st.ev G a)) fun p=>Bi (st.H p.1) fun o=>
  Req (dst=none∧o.virt=false∧(st.ev G x).known=true∧(st.ev G x).cs.all zcm=true∧(st.ev G x).cs.length=ti.size∧p.2+ti.size≤o.cells.length)
   (K {st with H:=zaK st.H p.1 (some {o with cells:=zdA o.cells p.2 (st.ev G x).cs})})
def zv1 (P:Program)(G:Nat→List FD)(N:Nat)(g:FuncId)(args:List D)(st:St)(dst:Option Tmp)(K:St→Prop):Option (List FD→Option (D×Prop))→Prop
 |some t=>Bi (D.toFDs args) fun xs=>Vv N (t xs) st dst K
 |none=>Chk (za2 N dst) (zaE P G g args st.H st.n fun d H n=>K (({st with H:=H,n:=n}:St).put dst d))
def ztv (te:TI)(s:Nat×List D×Prop)(tag:Nat)(st:St)(dst:Option Tmp)(K:St→Prop):D→Prop
 | .full xs=>Req (s.2.2∧zbi xs te.size∧0<te.size∧(0<s.1∨xs=[])∧fits (xs.length+s.1) te.bytes)
   (K (st.new (tag,st.n) ⟨zag xs++s.2.1,false,(zag xs++s.2.1).isEmpty⟩ dst (.arr (tag,st.n) te.size 0 (xs.length+s.1))))
 | .arr id es b len=>Bi (st.H id) fun o=>Req (s.2.2∧es=te.size∧b+len*te.size≤o.cells.length∧s.2.1.all zcm=true∧0<te.size∧fits (len+s.1) te.bytes)
   (K ({st with H:=zaK st.H id none}.new (tag,st.n) ⟨(o.cells.drop b).take (len*te.size)++s.2.1,false,o.virt&&((o.cells.drop b).take (len*te.size)++s.2.1).isEmpty⟩ dst (.arr (tag,st.n) te.size 0 (len+s.1))))
 |_=>False
def zsK:List D→Option (List FD)
 |[]=>some []
 | .fz x::ds=>match x with
  | .agg _=>none
  |x=>(zsK ds).map (x::·)
 |_::_=>none
theorem zlq:∀{ds:List D} {ys:List FD},zsK ds=some ys→ds=zag ys∧zbi ys 1∧ds.length=ys.length
 |[],ys,h=>by
  simp only[zsK,Option.some.injEq]at h;subst h
  exact⟨rfl,fun x hx=>by simp at hx,rfl⟩
 | .fz x::ds,ys,h=>by
  cases x<;>simp only[zsK,Option.map_eq_some_iff,reduceCtorEq]at h<;>(obtain⟨zs,h,rfl⟩:=h)<;>(obtain⟨h1,h2,h3⟩:=zlq h)<;>
   exact⟨by rw[h1];rfl,fun y hy=>(List.mem_cons.1 hy).elim (fun e=>by rw[e];rfl) (h2 y),by simp[h3]⟩
 | .junk::_,_,h| .full _::_,_,h| .rp _::_,_,h| .ptr _ _::_,_,h| .arr _ _ _ _::_,_,h| .ow _ _ _::_,_,h| .fn _ _::_,_,h| .agg _::_,_,h| .tup _::_,_,h=>by simp[zsK]at h
def zri (H:zau)(te:TI)(y:D):Option (List FD×Prop):=
 match y with
 | .arr id es s len=>ob (H id) fun o=>ob (zsK ((o.cells.drop s).take (len*te.size))) fun ys=>some (ys,te.size=1∧es=te.size∧s+len*te.size≤o.cells.length)
 |y=>ob (zqG y) fun ys=>some (ys,zbi ys te.size)
theorem zlg {H:zau}{te:TI}{y:D}{ys:List FD}{c:Prop}(h:zri H te y=some (ys,c))(hc:c):∃cc,zbn H te y=some (ys.length,zag ys,cc)∧cc∧zbi ys te.size:=by
 unfold zri at h
 split at h
 ·rename_i id es s len
  unfold ob at h
  split at h
  case h_2=>cases h
  rename_i o ho
  dsimp only at h
  split at h
  case h_2=>cases h
  rename_i zs hz
  simp only[Option.some.injEq,Prod.mk.injEq]at h
  obtain⟨rfl,rfl⟩:=h
  obtain⟨h1,h2,h3⟩:=zlq hz
  obtain⟨c1,c2,c3⟩:=hc
  have hl:zs.length=len:=by
   rw[←h3,List.length_take,List.length_drop,c1];rw[c1]at c3;omega
  refine⟨es=te.size∧s+len*te.size≤o.cells.length,?_,⟨c2,c3⟩,by rw[c1];exact h2⟩
  simp only[zbn,ho]
  rw[h1,hl]
 ·unfold ob at h
  split at h
  case h_2=>cases h
  rename_i zs hz
  simp only[Option.some.injEq,Prod.mk.injEq]at h
  obtain⟨rfl,rfl⟩:=h
  unfold zqG at hz
  split at hz
  case h_2=>cases hz
  rename_i ws hw
  obtain rfl:=Option.some.inj hz
  cases y<;>simp[D.toFD]at hw
  ·subst hw;exact⟨_,rfl,hc,hc⟩
  ·subst hw;exact⟨_,rfl,hc,hc⟩
  ·subst hw;exact⟨_,rfl,hc,hc⟩
def zvZ (te:TI)(tag:Nat)(om:Bool)(st:St)(dst:Option Tmp)(K:St→Prop)(y:D):D→Prop
 | .ow id es xs=>Bi (zri st.H te y) fun yc=>Bi (st.H id) fun _=>Req (es=te.size∧zbi xs te.size∧yc.2∧(zag yc.1).all zcm=true∧fits (xs.length+yc.1.length) te.bytes)
   (K ({st with H:=zaK st.H id none}.new (tag,st.n) tok dst (.ow (tag,st.n) te.size (xs++yc.1))))
 | .full xs=>zdn om (Bi (zri st.H te y) fun yc=>Req (zbi xs te.size∧yc.2∧fits (xs.length+yc.1.length) te.bytes) (K (st.new (tag,st.n) tok dst (.ow (tag,st.n) te.size (xs++yc.1)))))
   (Bi (zbn st.H te y) fun s=>ztv te s tag st dst K (.full xs))
 | .arr id es b len=>Bi (zbn st.H te y) fun s=>ztv te s tag st dst K (.arr id es b len)
 |_=>False
def zxU (P:Program)(G:Nat→List FD)(N tag:Nat)(am om:Bool)(args:List Operand)(ts:List TypeId)(st:St)(dst:Option Tmp)(K:St→Prop):Prop:=
 match args,ts with
 |[x,y],[t,u]=>
  if am then Bi (zaw P t) fun te=>Bi (zas P u) fun ui=>Chk (za2 N dst&&ui.isSlice) (zvZ te tag om st dst K (st.ev G y) (st.ev G x))
  else Vv N (zex P t u (st.ev G x) (st.ev G y)) st dst K
 |_,_=>False
def zo9 (P:Program)(G:Nat→List FD)(T:Tbl)(N tag:Nat)(am om:Bool)(args:Array Operand)(ts:Array TypeId)(st:St)(dst:Option Tmp)(K:St→Prop):Callee→Prop
 | .value f=>Bi (zwo (st.ev G f)) fun gc=>zv1 P G N gc.1 (args.toList.map (st.ev G)++gc.2) st dst K (T gc.1)
 | .builtin .append=>zxU P G N tag am om args.toList ts.toList st dst K
 | .builtin .len=>Vv N (zaT P .len ts (args.toList.map (st.ev G))) st dst K
 | .builtin .max=>Vv N (zaT P .max ts (args.toList.map (st.ev G))) st dst K
 | .builtin .min=>Vv N (zaT P .min ts (args.toList.map (st.ev G))) st dst K
 |_=>False
def zzu (P:Program)(N tag:Nat)(t:TypeId)(l c:D)(st:St)(dst:Option Tmp)(K:St→Prop):Prop:=
 Bi (zaw P t) fun te=>Bi (zme l) fun n=>Bi (zme c) fun m=>Chk (za2 N dst) (Req (m=n∧0≤n∧n.toNat≤zbj∧te.bytes*n≤2^48)
  (K (st.new (tag,st.n) ⟨(List.range (n.toNat*te.size)).map fun j=>te.zero.getD (j % te.size) .junk,false,false⟩ dst (.arr (tag,st.n) te.size 0 n.toNat))))
def zjY (P:Program)(G:Nat→List FD)(N tag:Nat)(t:TypeId)(n:Nat)(ps:List (Nat×Operand))(st:St)(dst:Option Tmp)(K:St→Prop):Prop:=
 Bi (zaw P t) fun te=>Chk (za2 N dst&&ps.all fun p=>zsO te.size (st.ev G p.2)) (Req (ps.map (·.1)=List.range n∧n≤2^24∧n*te.size≤2^24)
  (K (st.new (tag,st.n) ⟨ps.flatMap fun p=>(st.ev G p.2).cs,false,false⟩ dst (.arr (tag,st.n) te.size 0 n))))
def XO (P:Program)(G:Nat→List FD)(T:Tbl)(N tag0:Nat)(am:Nat→Bool)(st:St)(K:St→Prop)(dst:Option Tmp):Op→Prop
 | .move x=>Chk (za2 N dst) (K (st.put dst (st.ev G x)))
 | .assign x=>Chk (za2 N dst) (K (st.put dst (st.ev G x)))
 | .pick c a b=>Vv N (zfh (st.ev G c) (st.ev G a) (st.ev G b)) st dst K
 | .build t ps=>Chk (ps.toList.all fun p=>(st.ev G p.2).known) (Vv N (zd9 P t (ps.toList.map fun p=>(p.1,st.ev G p.2))) st dst K)
 | .load t a=>Vv N (zed P st.H t (st.ev G a)) st dst K
 | .nilCheck x=>Vv N (zlX (st.ev G x)) st dst K
 | .binOp op t x y _=>if zdw y then zuU P N op t (st.ev G x) st dst K else Vv N (zcY P op t (st.ev G x) (st.ev G y)) st dst K
 | .unOp op _ x=>Vv N (ztN op (st.ev G x)) st dst K
 | .convert s t x=>Vv N (zdd P s t (st.ev G x)) st dst K
 | .makeFunc (.func f) first caps=>Chk (first.size==0&&za2 N dst) (K (st.put dst (.fn f (caps.toList.map (st.ev G)))))
 | .slice t x lo hi mx=>Vv N (zaN P t (st.ev G x) (lo.map (st.ev G)) (hi.map (st.ev G)) (mx.map (st.ev G))) st dst K
 | .fieldAddr t x i=>Vv N (zbw P t (st.ev G x) i) st dst K
 | .field t x i=>Vv N (zea P t (st.ev G x) i) st dst K
 | .indexAddr t x i=>Vv N (zbx P t (st.ev G x) (st.ev G i)) st dst K
 | .index t x i=>Vv N (zec P t (st.ev G x) (st.ev G i)) st dst K
 | .extract x i=>Vv N (zcZ (st.ev G x) i) st dst K
 | .call c=>zo9 P G T N (tag0+dst.getD 0) (am (dst.getD 0)) (am (2000000+dst.getD 0)) c.args c.argTypes st dst K c.callee
 | .alloc e=>Bi (zas P e) fun ti=>Chk (za2 N dst) (K (st.new (tag0+dst.getD 0,st.n) ⟨ti.zero,true,false⟩ dst (.ptr (tag0+dst.getD 0,st.n) 0)))
 | .box _ x=>Chk (za2 N dst&&(st.ev G x).known) (K (st.new (tag0+dst.getD 0,st.n) ⟨(st.ev G x).cs,true,false⟩ dst (.ptr (tag0+dst.getD 0,st.n) 0)))
 | .makeSlice t l c=>zzu P N (tag0+dst.getD 0) t (st.ev G l) (st.ev G c) st dst K
 | .buildSlice t n ps=>if am (dst.getD 0)then zjY P G N (tag0+dst.getD 0) t n ps.toList st dst K else Vv N (zbY P t n (ps.toList.map (·.1)) (ps.toList.map fun p=>st.ev G p.2)) st dst K
 | .store t a x=>zv0 P G t a x st dst K
 |_=>False
section
variable {P:Program} {G:Nat→List FD} {T:Tbl} {N tag0:Nat} {am:Nat→Bool} {st:St} {K:St→Prop}
theorem zbS {α:Type}{r:Option α}{k:α→Prop}(h:Bi r k):∃a,r=some a∧k a:=by
 cases r with
 |none=>exact h.elim
 |some a=>exact⟨a,rfl,h⟩
theorem zzr (hT:zam P G T){o:Oper}{r:Option (D×Prop)}(hr:zbh P T o (st.ev G) st.H=r)(h:Vv N r st o.dst K):zcN P G N tag0 o st K:=by
 obtain⟨⟨d,c⟩,rfl,h1,h2,h3⟩:=zbS h
 exact zky hT h1 hr h2 h3
theorem ztQ {o:Oper}{r:Option (D×Prop)}(hr:zbe P o (st.ev G) st.H=r)(h:Vv N r st o.dst K):∃d c,zbe P o (st.ev G) st.H=some (d,c)∧za2 N o.dst=true∧c∧K (st.put o.dst d):=by
 obtain⟨⟨d,c⟩,rfl,h1,h2,h3⟩:=zbS h
 exact⟨d,c,hr,h1,h2,h3⟩
theorem ziZ {o:Oper}{r:Option (D×Prop)}(hr:zbe P o (st.ev G) st.H=r)(h:Vv N r st o.dst K):zcN P G N tag0 o st K:=by
 obtain⟨d,c,h1,h2,h3,h4⟩:=ztQ hr h
 unfold zcN
 rw[h1]
 exact⟨h2,h3,h4⟩
theorem zn2 {op:BinOp}{t:TypeId}{x:D}:zcY P op t x (.full [])=none:=by
 cases x with
 |fz z=>cases z<;>rfl
 |full xs=>rfl
 |ow _ _ _=>rfl
 |agg ds=>
  unfold zcY
  simp only[D.toFD]
  cases D.toFDs ds<;>rfl
 |_=>rfl
theorem zpa (hT:zam P G T):∀(o:Oper),XO P G T N tag0 am st K o.dst o.op→zcN P G N tag0 o st K:=by
 intro o h
 obtain⟨dst,op,ty,pos,after,guard⟩:=o
 cases op with
 |move x=>exact ziZ (r:=some (_,True)) rfl ⟨h.1,trivial,h.2⟩
 |assign x=>exact ziZ (r:=some (_,True)) rfl ⟨h.1,trivial,h.2⟩
 |pick c a b=>exact ziZ rfl h
 |build t ps=>
  obtain⟨h1,h2⟩:=h
  refine ziZ ?_ h2
  simp only[zbe]
  rw[if_pos h1]
 |load t a=>exact ziZ rfl h
 |nilCheck x=>exact ziZ rfl h
 |binOp op t x y yt=>
  simp only[XO]at h
  split at h
  ·rename_i hn
   have hy:y= .const (.slice none 0 0):=by
    unfold zdw at hn
    split at hn
    ·rfl
    ·cases hn
   subst hy
   unfold zcN
   have e:zbe P ⟨dst,.binOp op t x (.const (.slice none 0 0)) yt,ty,pos,after,guard⟩ (st.ev G) st.H=none:=zn2
   rw[e]
   unfold zuU at h
   simp only
   split at h
   ·rename_i h1 h2
    exact⟨h.1,by rw[h1,h2];exact h.2⟩
   ·rename_i h1 h2
    exact⟨h.1,by rw[h1,h2];exact h.2⟩
   ·exact h.elim
  ·exact ziZ rfl h
 |unOp op t x=>exact ziZ rfl h
 |convert s t x=>exact ziZ rfl h
 |makeFunc f first caps=>
  cases f with
  |func f=>
   obtain⟨h1,h2⟩:=h
   simp only[Bool.and_eq_true,beq_iff_eq]at h1
   refine ziZ (r:=some (_,True)) ?_ ⟨h1.2,trivial,h2⟩
   simp only[zbe]
   rw[if_pos h1.1]
  |_=>exact h.elim
 |slice t x lo hi mx=>exact ziZ rfl h
 |fieldAddr t x i=>exact ziZ rfl h
 |field t x i=>exact ziZ rfl h
 |indexAddr t x i=>exact ziZ rfl h
 |index t x i=>exact ziZ rfl h
 |extract x i=>exact ziZ rfl h
 |alloc e=>
  obtain⟨ti,h1,h2,h3⟩:=zbS h
  unfold zcN
  simp only[zbe]
  exact⟨h2,by rw[h1];exact h3⟩
 |box e x=>
  obtain⟨h1,h2⟩:=h
  simp only[Bool.and_eq_true]at h1
  unfold zcN
  simp only[zbe]
  exact⟨h1.1,h1.2,h2⟩
 |makeSlice t l c=>
  obtain⟨te,h1,h2⟩:=zbS h
  obtain⟨n,h3,h4⟩:=zbS h2
  obtain⟨m,h5,h6,h7,h8⟩:=zbS h4
  unfold zcN
  simp only[zbe]
  refine⟨h6,?_⟩
  have e1:∀(d:D) n,zme d=some n→∃k,d= .fz (.i k n):=by
   intro d n hd
   unfold zme at hd
   split at hd
   ·exact⟨_,by rw[Option.some.inj hd]⟩
   ·cases hd
  obtain⟨k1,e2⟩:=e1 _ _ h3
  obtain⟨k2,e3⟩:=e1 _ _ h5
  rw[h1,e2,e3]
  exact⟨h7.1,h7.2.1,h7.2.2.1,h7.2.2.2,h8⟩
 |buildSlice t n ps=>
  simp only[XO]at h
  split at h
  ·obtain⟨te,h1,h2,h3,h4⟩:=zbS h
   simp only[Bool.and_eq_true]at h2
   unfold zcN
   simp only[zbe]
   refine⟨h2.1,.inr ?_⟩
   rw[h1]
   exact⟨h3.1,h2.2,h3.2.1,h3.2.2,h4⟩
  ·exact zzr hT (o:=⟨dst,.buildSlice t n ps,ty,pos,after,guard⟩) rfl h
 |store t a x=>
  obtain⟨ti,h1,h2⟩:=zbS h
  obtain⟨⟨id,k⟩,h3,h4⟩:=zbS h2
  obtain⟨ob,h5,h6,h7⟩:=zbS h4
  unfold zcN
  simp only[zbe]
  have e:st.ev G a= .ptr id k:=by
   unfold zsq at h3
   split at h3
   ·rename_i hp;rw[hp];simp only[Option.some.injEq,Prod.mk.injEq]at h3;rw[h3.1,h3.2]
   ·cases h3
  have hd:dst=none:=h6.1
  subst hd
  refine⟨rfl,?_⟩
  rw[h1,e]
  simp only
  rw[h5]
  exact⟨trivial,h6.2.1,h6.2.2.1,h6.2.2.2.1,h6.2.2.2.2.1,h6.2.2.2.2.2,h7⟩
 |call c=>
  obtain⟨callee,args,ts⟩:=c
  simp only[XO]at h
  cases callee with
  |value f=>
   obtain⟨⟨g,caps⟩,h1,h2⟩:=zbS h
   have e:st.ev G f= .fn g caps:=by
    unfold zwo at h1
    split at h1
    ·rename_i hp;rw[hp];simp only[Option.some.injEq,Prod.mk.injEq]at h1;rw[h1.1,h1.2]
    ·cases h1
   simp only at h2
   cases ht:T g with
   |some t=>
    rw[ht]at h2
    obtain⟨xs,h3,h4⟩:=zbS h2
    refine zzr hT (o:=⟨dst,.call ⟨.value f,args,ts⟩,ty,pos,after,guard⟩) (r:=t xs) ?_ h4
    simp only[zbh,zbe,e,zmS,ht,h3]
   |none=>
    rw[ht]at h2
    unfold zcN
    simp only[zbe]
    refine⟨h2.1,?_⟩
    rw[e]
    exact h2.2
  |invoke _ _=>exact h.elim
  |builtin b=>
   cases b with
   |len=>exact ziZ rfl h
   |max=>exact ziZ rfl h
   |min=>exact ziZ rfl h
   |append=>
    simp only[zo9]at h
    unfold zxU at h
    split at h
    case h_2=>exact h.elim
    rename_i x y t u ha ht
    split at h
    ·obtain⟨te,h1,h2⟩:=zbS h
     obtain⟨ui,h3,h4,h5⟩:=zbS h2
     simp only[Bool.and_eq_true]at h4
     unfold zcN
     have e:zbe P ⟨dst,.call ⟨.builtin .append,args,ts⟩,ty,pos,after,guard⟩ (st.ev G) st.H=none:=by
      simp only[zbe,zaT]
     rw[e]
     refine⟨h4.1,?_⟩
     simp only
     rw[ha,ht]
     simp only
     unfold zcv
     rw[h1,h3]
     simp only
     rw[h4.2]
     cases hx:st.ev G x with
     |ow id es xs=>
      rw[hx]at h5
      obtain⟨⟨ys,c⟩,h6,h7⟩:=zbS h5
      obtain⟨ob,h8,h9,h10⟩:=zbS h7
      obtain⟨cc,hsrc,hcc,hll⟩:=zlg h6 h9.2.2.1
      rw[hsrc]
      exact⟨ys,ob,rfl,rfl,hcc,h8,h9.1,h9.2.1,hll,h9.2.2.2.1,h9.2.2.2.2,h10⟩
     |full xs=>
      rw[hx]at h5
      cases hom:am (2000000+dst.getD 0)with
      |true=>
       obtain⟨⟨ys,c⟩,h6,h8,h9⟩:=zbS (h5.1 hom)
       obtain⟨cc,hsrc,hcc,hll⟩:=zlg h6 h8.2.1
       rw[hsrc]
       exact .inr (.inr ⟨ys,rfl,rfl,hcc,h8.1,hll,h8.2.2,h9⟩)
      |false=>
       obtain⟨⟨n,src,cc⟩,h6,h8,h9⟩:=zbS (h5.2 hom)
       rw[h6]
       simp only at h8 ⊢
       exact .inl ⟨h8.1,h8.2.1,h8.2.2.1,h8.2.2.2.1,h8.2.2.2.2,h9⟩
     |arr id es b len=>
      rw[hx]at h5
      obtain⟨⟨n,src,cc⟩,h6,h7⟩:=zbS h5
      obtain⟨ob,h8,h9,h10⟩:=zbS h7
      rw[h6]
      simp only at h9 ⊢
      rw[h8]
      exact⟨h9.1,h9.2.1,h9.2.2.1,h9.2.2.2.1,h9.2.2.2.2.1,h9.2.2.2.2.2,h10⟩
     |_=>rw[hx]at h5;exact h5.elim
    ·refine zzr hT (o:=⟨dst,.call ⟨.builtin .append,args,ts⟩,ty,pos,after,guard⟩) ?_ h
     simp only[zbh,zbe,zaT,ha,ht]
   |_=>exact h.elim
 |_=>exact h.elim
def gv2 (want:Bool):D→Option Bool
 | .fz (.b x)=>some (x==want)
 | .tup []=>some false
 |_=>none
def zly (ops:Array Oper)(fr:Nat→D):Option (Nat×Bool)→Option Bool
 |none=>some true
 |some jw=>ob ((ops[jw.1]?).bind (·.dst)) fun t=>gv2 jw.2 (fr t)
def znl (P:Program)(G:Nat→List FD)(T:Tbl)(N tag0:Nat)(am:Nat→Bool)(ops:Array Oper):List Oper→(St→Prop)→St→Prop
 |[],K,st=>K st
 |o::os,K,st=>Bi (zly ops st.fr o.guard) fun b=>zdn b (XO P G T N tag0 am st (znl P G T N tag0 am ops os K) o.dst o.op)
   (Chk (za2 N o.dst) (znl P G T N tag0 am ops os K (st.put o.dst (.tup []))))
end
end Go.Abs
namespace Go.Abs
open Go
section
variable {P:Program} {G:Nat→List FD} {T:Tbl} {N tag0:Nat} {am:Nat→Bool} {st:St} {a:Act} {w:World} {L:Loc} {F:Nat→Nat→Prop} {K:St→Prop} {Q:Exit→St→Prop}
theorem zc3 {ops:Array Oper}{o:Oper}{b:Bool}(h:Rel G N st a w L F)(hb:zly ops st.fr o.guard=some b):Region.wanted o (yielded ops a.tmps)=b:=by
 cases hg:o.guard with
 |none=>
  rw[hg]at hb
  simp only[zly,Option.some.injEq]at hb
  subst hb
  simp[Region.wanted,hg]
 |some jw=>
  obtain⟨j,want⟩:=jw
  rw[hg]at hb
  simp only[zly]at hb
  cases ht:(ops[j]?).bind (·.dst)with
  |none=>rw[ht]at hb;cases hb
  |some t=>
   rw[ht]at hb
   simp only[ob]at hb
   unfold gv2 at hb
   split at hb
   ·rename_i x hx
    rw[zq8 hg ht hx h (zzJ h hx)]
    exact Option.some.inj hb
   ·rename_i hx
    have h1:=h.fr t
    rw[hx]at h1
    simp only[zaj]at h1
    obtain⟨vs,h2,_⟩:=h1
    simp only[Region.wanted,hg,yielded,ht,Option.bind_some]
    rw[←Option.some.inj hb]
    rw[Array.getD_eq_getD_getElem?]at h2
    cases hq:a.tmps[t]? with
    |none=>simp
    |some v=>
     rw[hq]at h2
     simp only[Option.getD_some]at h2
     rw[h2]
     rfl
   ·cases hb
theorem zqR (hT:zam P G T){ops:Array Oper}{Q':Exit→Act→World→Prop}:∀(l:List Oper) (k:Nat),(∀j,l[j]?=ops[k+j]?)→∀(st:St) (a:Act) (w:World) (L:Loc) (F:Nat→Nat→Prop),Rel G N st a w L F→znl P G T N tag0 am ops l K st→
  (∀a' w',Sat G N st w L F K a' w'→Q' .normal a' w')→wpOps P ops Q' ((List.range l.length).map (k+·)) a w
 |[],k,_,st,a,w,L,F,h,hs,hQ=>by
  simp only[List.length_nil,List.range_zero,List.map_nil,wpOps]
  exact hQ _ _ ⟨st,L,F,hs,h,zbt.refl _ _ _ _ _⟩
 |o::l,k,hl,st,a,w,L,F,h,hs,hQ=>by
  have h0:ops[k]?=some o:=by have:=hl 0;simpa using this.symm
  have hrest:(List.range (o::l).length).map (k+·)=k::(List.range l.length).map (k+1+·):=by
   simp only[List.length_cons,List.range_succ_eq_map,List.map_cons,List.map_map,Nat.add_zero]
   congr 1
   apply List.map_congr_left
   intro j _
   simp;omega
  rw[hrest]
  simp only[wpOps,h0]
  have ih:∀(st1:St) (a1:Act) (w1:World) (L1:Loc) (F1:Nat→Nat→Prop),Rel G N st1 a1 w1 L1 F1→zhZ st w L F st1 w1 L1 F1→znl P G T N tag0 am ops l K st1→wpOps P ops Q' ((List.range l.length).map (k+1+·)) a1 w1:=
   fun st1 a1 w1 L1 F1 hr hst hs'=>zqR hT l (k+1) (fun j=>by have:=hl (j+1);simp at this;rw[this];congr 1;omega) st1 a1 w1 L1 F1 hr hs' (fun a' w' hsat=>hQ _ _ (hsat.trans hst))
  obtain⟨b,hb,h1,h2⟩:=zbS hs
  rw[zc3 h hb]
  cases b with
  |true=>
   simp only[if_true]
   exact .inl (Oper.wp_mono (fun a1 w1 ⟨st1,L1,F1,h1,h2,h3⟩=>ih st1 a1 w1 L1 F1 h2 h3 h1) (znk h (zpa hT o (h1 rfl))))
  |false=>
   simp only[Bool.false_eq_true,if_false]
   obtain⟨hd,hs'⟩:=h2 rfl
   have hH:(st.put o.dst (.tup [])).H=st.H:=by cases o.dst<;>rfl
   have hn:(st.put o.dst (.tup [])).n=st.n:=by cases o.dst<;>rfl
   refine ih (st.put o.dst (.tup [])) (a.put o.dst undef) w L F (h.put (st':=st.put o.dst (.tup [])) (by rw[hH,hn];exact h.ok) (by rw[hH,hn];exact zbt.refl _ _ _ _ _) hd (by simp only[zaj];exact⟨[],rfl,trivial⟩) rfl) ?_ hs'
   unfold zhZ;rw[hH,hn];exact zbt.refl _ _ _ _ _
theorem zo3 (hT:zam P G T){id:Nat}{ops:Array Oper}(h:znl P G T N tag0 am ops ops.toList (Q .normal) st):W P G N (.region id ops false) Q st:=by
 intro a w L F hr
 refine wp_region ?_
 have:=zqR hT (Q':=fun e a' w'=>Sat G N st w L F (Q e) a' w') ops.toList 0 (by simp) st a w L F hr h (fun _ _ hs=>hs)
 have e:(List.range ops.toList.length).map (0+·)=List.range ops.size:=by
  simp
 rwa [e]at this
end
end Go.Abs
namespace Go.Abs
open Go
section
variable {P:Program} {G:Nat→List FD} {T:Tbl} {N tag0:Nat} {am:Nat→Bool} {st st2:St} {a:Act} {w:World} {L:Loc} {F:Nat→Nat→Prop} {K:St→Prop} {ops:Array Oper}
theorem zhg {o:Oper}{ev ev':Operand→D}{H:zau}(h:∀x∈o.op.operands,ev x=ev' x):zbe P o ev H=zbe P o ev' H:=by
 obtain⟨dst,op,type,pos,after,guard⟩:=o
 cases op<;>simp only[Op.operands]at h<;>simp only[zbe]
 case build t ps=>
  have h':∀p∈ps.toList,ev p.2=ev' p.2:=fun p hp=>h p.2 (by simpa using⟨p.1,by simpa using hp⟩)
  have e1:(ps.toList.all fun p=>(ev p.2).known)=(ps.toList.all fun p=>(ev' p.2).known):=by
   rw[Bool.eq_iff_iff,List.all_eq_true,List.all_eq_true]
   exact⟨fun hh p hp=>by rw[←h' p hp];exact hh p hp,fun hh p hp=>by rw[h' p hp];exact hh p hp⟩
  have e2:(ps.toList.map fun p=>(p.1,ev p.2))=(ps.toList.map fun p=>(p.1,ev' p.2)):=List.map_congr_left fun p hp=>by rw[h' p hp]
  rw[e1,e2]
 case makeFunc fn first caps=>
  have e:caps.toList.map ev=caps.toList.map ev':=List.map_congr_left fun x hx=>h x (by simp;exact .inr (by simpa using hx))
  cases fn<;>simp only[e]
 case call c=>
  have e:c.args.toList.map ev=c.args.toList.map ev':=List.map_congr_left fun x hx=>h x (by simp[Call.operands];exact .inr (by simpa using hx))
  cases c.callee<;>simp only[e]
 case slice t x lo hi mx=>cases lo<;>cases hi<;>cases mx<;>simp_all
 all_goals(first|rfl|(simp_all;done))
def zcF:Op→Bool
 | .load _ _=>false
 |_=>true
theorem zod {o:Oper}{ev:Operand→D}{H H':zau}(h:zcF o.op=true):zbe P o ev H=zbe P o ev H':=by
 obtain⟨dst,op,type,pos,after,guard⟩:=o
 cases op<;>first|rfl|(simp[zcF]at h;done)|(rename_i f _ _;cases f<;>rfl)
theorem zis {o:Oper}{ev:Operand→D}{H H':zau}(h:zcF o.op=true):zbh P T o ev H=zbh P T o ev H':=by
 unfold zbh
 rw[zod h]
theorem zmD {c:Call}{ev ev':Operand→D}(h:∀x∈c.operands,ev x=ev' x):c.args.toList.map ev=c.args.toList.map ev':=
 List.map_congr_left fun x hx=>h x (by simp[Call.operands];exact .inr (by simpa using hx))
theorem zl3 {o:Oper}{ev ev':Operand→D}{H:zau}(h:∀x∈o.op.operands,ev x=ev' x):zbh P T o ev H=zbh P T o ev' H:=by
 unfold zbh
 rw[zhg h]
 obtain⟨dst,op,type,pos,after,guard⟩:=o
 cases zbe P ⟨dst,op,type,pos,after,guard⟩ ev' H with
 |some r=>rfl
 |none=>
  cases op<;>simp only
  case buildSlice t n ps=>
   have e2:(ps.toList.map fun p=>ev p.2)=(ps.toList.map fun p=>ev' p.2):=List.map_congr_left fun p hp=>h p.2 (by simpa[Op.operands]using⟨p.1,by simpa using hp⟩)
   rw[e2]
  case call c=>
   have e:=zmD (c:=c) h
   rw[e]
   cases hc:c.callee with
   |value f=>simp only;rw[h f (by simp[Op.operands,Call.operands,hc])]
   |invoke r m=>rfl
   |builtin b=>
    cases b<;>try rfl
    simp only
    have h':∀x∈c.args.toList,ev x=ev' x:=fun x hx=>h x (by simp[Op.operands,Call.operands,hc];simpa using hx)
    split
    ·rename_i x y t u ha ht
     rw[ha]at h'
     rw[h' x (by simp),h' y (by simp)]
    ·rfl
def zdE (fr:Nat→D)(dst:Option Tmp)(e:D):Nat→D:=
 match dst with
 |some t=>upd fr t e
 |none=>fr
def zrk (fr fr2:Nat→D)(dst:Option Tmp)(s s2:St):Prop:=∃e H n,s=⟨zdE fr dst e,H,n⟩∧s2=⟨zdE fr2 dst e,H,n⟩
theorem zdr {fr fr2:Nat→D}{H:zau}{n:Nat}{dst:Option Tmp}{e:D}:zrk fr fr2 dst (St.put ⟨fr,H,n⟩ dst e) (St.put ⟨fr2,H,n⟩ dst e):=by
 refine⟨e,H,n,?_,?_⟩<;>cases dst<;>rfl
theorem zco {fr fr2:Nat→D}{H:zau}{n:Nat}{dst:Option Tmp}{e:D}{id:Id}{ob:O}:zrk fr fr2 dst (St.new ⟨fr,H,n⟩ id ob dst e) (St.new ⟨fr2,H,n⟩ id ob dst e):=by
 refine⟨e,zaK H id (some ob),n+1,?_,?_⟩<;>cases dst<;>rfl
theorem zhP {fr fr2:Nat→D}{H:zau}{n:Nat}{tag:Nat}{dst:Option Tmp}{t u:TypeId}{x y:D}{K2:St→Prop}(hk:∀s s2,K s→zrk fr fr2 dst s s2→K2 s2)(h:zcv P ⟨fr,H,n⟩ tag dst t u x y K):
  zcv P ⟨fr2,H,n⟩ tag dst t u x y K2:=by
 unfold zcv at h ⊢
 split at h
 case h_2=>exact h.elim
 simp only at h ⊢
 split at h
 ·rcases h with⟨h1,h2,h3,h4,h5,hK⟩|⟨ys,h1,h2,h3,h4,hK⟩|⟨ys,h0,h0',h1,h2,h3,h4,hK⟩
  ·exact .inl ⟨h1,h2,h3,h4,h5,hk _ _ (hK) zco⟩
  ·exact .inr (.inl ⟨ys,h1,h2,h3,h4,hk _ _ (hK) zdr⟩)
  ·exact .inr (.inr ⟨ys,h0,h0',h1,h2,h3,h4,hk _ _ (hK) zco⟩)
 ·obtain⟨ys,ob,h0,h0',h1,h2,h3,h4,h5,h6,h7,hK⟩:=h
  exact⟨ys,ob,h0,h0',h1,h2,h3,h4,h5,h6,h7,hk _ _ (hK) zco⟩
 ·split at h
  case h_2=>exact h.elim
  obtain⟨h1,h2,h3,h4,h5,h6,hK⟩:=h
  exact⟨h1,h2,h3,h4,h5,h6,hk _ _ (hK) zco⟩
 ·exact h.elim
theorem zcj {fr fr2:Nat→D}{H:zau}{n:Nat}{o:Oper}(he:∀x∈o.op.operands,St.ev G ⟨fr,H,n⟩ x=St.ev G ⟨fr2,H,n⟩ x){K2:St→Prop}(hk:∀s s2,K s→zrk fr fr2 o.dst s s2→K2 s2)(h:zcN P G N tag0 o ⟨fr,H,n⟩ K):
  zcN P G N tag0 o ⟨fr2,H,n⟩ K2:=by
 unfold zcN at h ⊢
 simp only at h ⊢
 rw[←zhg he]
 cases hev:zbe P o (St.ev G ⟨fr,H,n⟩) H with
 |some r=>
  obtain⟨d,c⟩:=r
  rw[hev]at h
  obtain⟨h1,h2,h3⟩:=h
  exact⟨h1,h2,hk _ _ (h3) zdr⟩
 |none=>
  rw[hev]at h
  obtain⟨hd,h⟩:=h
  refine⟨hd,?_⟩
  obtain⟨dst,op,type,pos,after,guard⟩:=o
  cases op<;>simp only[Op.operands]at he<;>simp only at h ⊢
  case alloc e=>
   split at h
   ·exact hk _ _ h zco
   ·exact h
  case box e x=>
   rw[←he x (by simp)]
   exact⟨h.1,hk _ _ (h.2) zco⟩
  case makeSlice t l c=>
   rw[←he l (by simp),←he c (by simp)]
   split at h
   ·obtain⟨h1,h2,h3,h4,h5⟩:=h
    exact⟨h1,h2,h3,h4,hk _ _ (h5) zco⟩
   ·exact h
  case buildSlice t k ps=>
   have e2:(ps.toList.map fun p=>St.ev G ⟨fr,H,n⟩ p.2)=(ps.toList.map fun p=>St.ev G ⟨fr2,H,n⟩ p.2):=List.map_congr_left fun p hp=>he p.2 (by simpa using⟨p.1,by simpa using hp⟩)
   have e3:∀m,(ps.toList.all fun p=>zsO m (St.ev G ⟨fr,H,n⟩ p.2))=(ps.toList.all fun p=>zsO m (St.ev G ⟨fr2,H,n⟩ p.2)):=fun m=>by
    have:=congrArg (fun l=>l.all (zsO m)) e2
    simp only[List.all_map]at this
    exact this
   have e4:(ps.toList.flatMap fun p=>(St.ev G ⟨fr,H,n⟩ p.2).cs)=(ps.toList.flatMap fun p=>(St.ev G ⟨fr2,H,n⟩ p.2).cs):=by
    have:=congrArg (fun l=>l.flatMap D.cs) e2
    simp only[List.flatMap_map]at this
    exact this
   rw[←e2,←e4]
   simp only[←e3]
   rcases h with h|h
   ·refine .inl ?_
    split at h
    ·obtain⟨h1,h2,h3,h4,h5⟩:=h
     exact⟨h1,h2,h3,h4,hk _ _ (h5) zdr⟩
    ·exact h
   ·refine .inr ?_
    split at h
    ·obtain⟨h1,h2,h3,h4,h5⟩:=h
     exact⟨h1,h2,h3,h4,hk _ _ (h5) zco⟩
    ·exact h
  case store t p x=>
   rw[←he p (by simp),←he x (by simp)]
   split at h
   ·split at h
    ·obtain⟨h1,h2,h3,h4,h5,h6,h7⟩:=h
     subst h1
     exact⟨rfl,h2,h3,h4,h5,h6,hk _ _ h7 ⟨.junk,_,_,rfl,rfl⟩⟩
    ·exact h
   ·exact h
  case binOp op t x y yt=>
   split at h<;>(try(rename_i heq;cases heq;done))<;>(try exact h.elim)
   rename_i heq
   cases heq
   rw[←he x (by simp)]
   split at h
   ·exact fun b hb=>hk _ _ (h b hb) zdr
   ·exact fun b hb=>hk _ _ (h b hb) zdr
   ·exact h.elim
  case call c=>
   have e:=zmD (c:=c) he
   cases hc:c.callee with
   |value f=>
    rw[hc]at h
    simp only at h ⊢
    rw[←he f (by simp[Call.operands,hc]),←e]
    split at h
    ·exact zaQ h fun d H n hK=>hk _ _ hK zdr
    ·exact h
   |invoke r m=>rw[hc]at h;exact h
   |builtin b=>
    rw[hc]at h
    cases b<;>try exact h
    simp only at h ⊢
    have h':∀x∈c.args.toList,St.ev G ⟨fr,H,n⟩ x=St.ev G ⟨fr2,H,n⟩ x:=fun x hx=>he x (by simp[Call.operands,hc];simpa using hx)
    split at h
    ·rename_i x y t u ha ht
     rw[ha]at h'
     rw[←h' x (by simp),←h' y (by simp)]
     exact zhP hk h
    ·exact h
  all_goals exact h
theorem zcc {dst:Option Tmp}{d:D}:st.put dst d=⟨zdE st.fr dst d,st.H,st.n⟩:=by cases dst<;>rfl
theorem zl2 {o:Oper}{dst:Option Tmp}{fr:Nat→D}{H H':zau}{n n':Nat}{e:D}(h:∀d,dst=some d→d∉o.looksAt ops):∀x∈o.op.operands,St.ev G ⟨zdE fr dst e,H,n⟩ x=St.ev G ⟨fr,H',n'⟩ x:=by
 intro x hx
 cases x with
 |tmp t=>
  simp only[St.ev]
  cases dst with
  |none=>rfl
  |some d=>
   simp only[zdE,upd]
   rw[if_neg]
   rintro rfl
   exact h _ rfl (List.mem_append_left _ (List.mem_filterMap.2 ⟨.tmp t,by simpa using hx,rfl⟩))
 |_=>rfl
theorem zfo {o:Oper}{dst:Option Tmp}{fr:Nat→D}{e:D}(h:∀d,dst=some d→d∉o.looksAt ops):zly ops (zdE fr dst e) o.guard=zly ops fr o.guard:=by
 cases hg:o.guard with
 |none=>rfl
 |some jw=>
  obtain⟨j,want⟩:=jw
  simp only[zly]
  cases ht:(ops[j]?).bind (·.dst)with
  |none=>rfl
  |some t=>
   simp only[ob]
   cases dst with
   |none=>rfl
   |some d=>
    simp only[zdE,upd]
    rw[if_neg]
    rintro rfl
    exact h _ rfl (by simp[Oper.looksAt,hg,ht])
theorem zdF {x y:Option Tmp}{fr:Nat→D}{u v:D}(h:∀d,x=some d→y≠some d):zdE (zdE fr x u) y v=zdE (zdE fr y v) x u:=by
 cases x with
 |none=>rfl
 |some d=>
  cases y with
  |none=>rfl
  |some e=>
   have hne:d≠e:=fun he=>h d rfl (he▸rfl)
   funext j
   simp only[zdE,upd]
   by_cases h1:j=e
   ·subst h1;rw[if_pos rfl,if_neg (Ne.symm hne),if_pos rfl]
   ·rw[if_neg h1,if_neg h1]
def qv (P:Program)(G:Nat→List FD)(T:Tbl)(ops:Array Oper)(o:Oper)(st:St):Option (D×Prop):=
 match zly ops st.fr o.guard with
 |some true=>zbh P T o (st.ev G) st.H
 |some false=>some (.tup [],True)
 |none=>none
def zbW (P:Program)(G:Nat→List FD)(T:Tbl)(N tag0:Nat)(ops:Array Oper)(q:Bool)(o:Oper)(st:St)(K:St→Prop):Prop:=
 if q then∃d c,qv P G T ops o st=some (d,c)∧za2 N o.dst=true∧c∧K (st.put o.dst d)
 else match zly ops st.fr o.guard with
  |some true=>zcN P G N tag0 o st K
  |some false=>za2 N o.dst=true∧K (st.put o.dst (.tup []))
  |none=>False
theorem zf0 {o:Oper}{dst:Option Tmp}{fr:Nat→D}{H H':zau}{n n':Nat}{e:D}(h:∀d,dst=some d→d∉o.looksAt ops)(hh:H'=H∨zcF o.op=true):
  qv P G T ops o ⟨zdE fr dst e,H',n'⟩=qv P G T ops o ⟨fr,H,n⟩:=by
 unfold qv
 simp only
 rw[zfo h,zl3 (zl2 (H':=H) (n':=n) h)]
 rcases hh with rfl|hh
 ·rfl
 ·rw[zis (H:=H') (H':=H) hh]
theorem zjQ {oi oj:Oper}{q:Bool}{fr:Nat→D}{H:zau}{n:Nat}{d:D}{c:Prop}(hap:oi.apart ops oj=true)(hh:q=true∨zcF oi.op=true)(hy:qv P G T ops oi ⟨fr,H,n⟩=some (d,c))
  (h:zbW P G T N tag0 ops q oj ⟨zdE fr oi.dst d,H,n⟩ K):zbW P G T N tag0 ops q oj ⟨fr,H,n⟩ (fun s=>qv P G T ops oi s=some (d,c)∧K ⟨zdE s.fr oi.dst d,s.H,s.n⟩):=by
 obtain⟨h1,h2,h3⟩:=Oper.apart_spec hap
 unfold zbW at h ⊢
 have eput:∀(e:D),(St.put ⟨fr,H,n⟩ oj.dst e)=⟨zdE fr oj.dst e,H,n⟩:=fun e=>zcc
 have eput2:∀(e:D),(St.put ⟨zdE fr oi.dst d,H,n⟩ oj.dst e)=⟨zdE (zdE fr oj.dst e) oi.dst d,H,n⟩:=fun e=>by rw[zcc];simp only;rw[zdF h2]
 have hyj:∀e,qv P G T ops oi ⟨zdE fr oj.dst e,H,n⟩=some (d,c):=fun e=>(zf0 h3 (.inl rfl)).trans hy
 split
 ·rename_i hq
  simp only[hq,if_true]at h
  obtain⟨e,c',g1,g2,g3,g4⟩:=h
  refine⟨e,c',(zf0 h1 (.inl rfl)).symm.trans g1,g2,g3,?_,?_⟩
  ·rw[eput];exact hyj e
  ·rw[eput];rw[eput2]at g4;exact g4
 ·rename_i hq
  simp only[hq]at h
  simp only at h ⊢
  rw[zfo h1]at h
  split
  ·rename_i hg
   simp only[hg]at h
   refine zcj (fr2:=fr) (zl2 h1) ?_ h
   rintro s s2 hK ⟨e,H',n',rfl,rfl⟩
   refine⟨(zf0 h3 (.inr (hh.resolve_left hq))).trans hy,?_⟩
   simp only
   rw[zdF h2]at hK
   exact hK
  ·rename_i hg
   simp only[hg]at h
   refine⟨h.1,?_,?_⟩
   ·rw[eput];exact hyj _
   ·have:=h.2
    rw[eput2]at this
    rw[eput]
    exact this
  ·rename_i hg
   simp[hg]at h
def zrc (P:Program)(G:Nat→List FD)(T:Tbl)(N tag0:Nat)(ops:Array Oper)(q:Nat→Bool)(K:St→Prop):Nat→Array Bool→St→Prop
 |0,listed,st=>Region.ready .any ops listed=[]∧K st
 |fuel+1,listed,st=>(Region.ready .any ops listed=[]→K st)∧
  ∀i∈Region.ready .any ops listed,∀o,ops[i]?=some o→zbW P G T N tag0 ops (q i) o st (zrc P G T N tag0 ops q K fuel (listed.setIfInBounds i true))
theorem zsD (hT:zam P G T){Q':Exit→Act→World→Prop}{K':Act→World→Prop}{i:Nat}{o:Oper}{q:Bool}(ho:ops[i]?=some o)(h:Rel G N st a w L F)(hs:zbW P G T N tag0 ops q o st K)
  (hk:∀a' w',Sat G N st w L F K a' w'→K' a' w'):wpOp P ops Q' i K' a w:=by
 unfold wpOp
 simp only[ho]
 have sym:∀{K},zcN P G N tag0 o st K→(∀a' w',Sat G N st w L F K a' w'→K' a' w')→o.wp P a w K' Q':=fun h1 h2=>Oper.wp_mono h2 (znk h h1)
 have skip:za2 N o.dst=true→K (st.put o.dst (.tup []))→K' (a.put o.dst undef) w:=by
  intro hd hK
  have hH:(st.put o.dst (.tup [])).H=st.H:=by cases o.dst<;>rfl
  have hn:(st.put o.dst (.tup [])).n=st.n:=by cases o.dst<;>rfl
  refine hk _ _ ⟨st.put o.dst (.tup []),L,F,hK,h.put (st':=st.put o.dst (.tup [])) (by rw[hH,hn];exact h.ok) (by rw[hH,hn];exact zbt.refl _ _ _ _ _) hd (by simp only[zaj];exact⟨[],rfl,trivial⟩) rfl,?_⟩
  unfold zhZ;rw[hH,hn];exact zbt.refl _ _ _ _ _
 unfold zbW at hs
 split at hs
 ·obtain⟨d,c,h1,h2,h3,h4⟩:=hs
  unfold qv at h1
  split at h1
  ·rename_i hg
   rw[zc3 h hg]
   simp only[if_true]
   exact .inl (sym (zky hT h2 h1 h3 h4) hk)
  ·rename_i hg
   rw[zc3 h hg]
   simp only[Option.some.injEq,Prod.mk.injEq]at h1
   obtain⟨rfl,rfl⟩:=h1
   simp only[Bool.false_eq_true,if_false]
   exact skip h2 h4
  ·cases h1
 ·split at hs
  ·rename_i hg
   rw[zc3 h hg]
   simp only[if_true]
   exact .inl (sym hs hk)
  ·rename_i hg
   rw[zc3 h hg]
   simp only[Bool.false_eq_true,if_false]
   exact skip hs.1 hs.2
  ·exact hs.elim
theorem zlJ (hT:zam P G T){q:Nat→Bool}{Q':Exit→Act→World→Prop}:∀(fuel:Nat) (listed:Array Bool) (st:St) (a:Act) (w:World) (L:Loc) (F:Nat→Nat→Prop),Rel G N st a w L F→zrc P G T N tag0 ops q K fuel listed st→
  (∀a' w',Sat G N st w L F K a' w'→Q' .normal a' w')→wpAny P .any ops Q' fuel listed a w
 |0,listed,st,a,w,L,F,h,hs,hQ=>⟨hs.1,hQ _ _ ⟨st,L,F,hs.2,h,zbt.refl _ _ _ _ _⟩⟩
 |fuel+1,listed,st,a,w,L,F,h,hs,hQ=>by
  refine⟨fun hr=>hQ _ _ ⟨st,L,F,hs.1 hr,h,zbt.refl _ _ _ _ _⟩,fun i hi=>?_⟩
  obtain⟨_,o,ho,_⟩:=mem_ready.1 hi
  refine zsD hT ho h (hs.2 i hi o ho) ?_
  rintro a' w' ⟨st1,L1,F1,h1,h2,h3⟩
  exact zlJ hT fuel _ st1 a' w' L1 F1 h2 h1 fun a2 w2 hsat=>hQ _ _ (hsat.trans h3)
theorem znF {q:Nat→Bool}{i:Nat}{oi:Oper}{d:D}{c:Prop}(hi:ops[i]?=some oi)(hqi:q i=true)(hc:c)(hd:za2 N oi.dst=true)(B:Nat→Bool)
  (hB:∀j oj,ops[j]?=some oj→B j=true→∃e∈oj.after,Region.binds .any e=true∧(e.on=i∨B e.on=true)):
  ∀(fuel:Nat) (listed:Array Bool) (st:St),(∀j,B j=true→listed.getD j false=false)→
   (∀j oj,ops[j]?=some oj→j≠i→listed.getD j true=false→B j=false→oi.apart ops oj=true∧(q j=true∨zcF oi.op=true))→
   i∈Region.ready .any ops listed→qv P G T ops oi st=some (d,c)→
   zrc P G T N tag0 ops q K fuel (listed.setIfInBounds i true) (st.put oi.dst d)→zrc P G T N tag0 ops q K (fuel+1) listed st:=by
 intro fuel
 have take:∀{st K},qv P G T ops oi st=some (d,c)→K (st.put oi.dst d)→zbW P G T N tag0 ops (q i) oi st K:=by
  intro st K hy hK
  unfold zbW
  rw[if_pos hqi]
  exact⟨d,c,hy,hd,hc,hK⟩
 induction fuel with
 |zero=>
  intro listed st _ _ hr hy H
  refine⟨fun h=>(by rw[h]at hr;cases hr),fun j hj oj hoj=>?_⟩
  by_cases hji:j=i
  ·subst hji;rw[hi]at hoj;obtain rfl:=Option.some.inj hoj;exact take hy H
  ·have:=ready_mono hj hji
   rw[H.1]at this
   cases this
 |succ fuel ih=>
  intro listed st hBl hfree hr hy H
  refine⟨fun h=>(by rw[h]at hr;cases hr),fun j hj oj hoj=>?_⟩
  by_cases hji:j=i
  ·subst hji;rw[hi]at hoj;obtain rfl:=Option.some.inj hoj;exact take hy H
  ·have h1:=H.2 j (ready_mono hj hji) oj hoj
   obtain⟨hjun,oj',hoj',hall⟩:=mem_ready.1 hj
   rw[hoj]at hoj'
   obtain rfl:=Option.some.inj hoj'
   have hnl:listed.getD i false=false:=by
    have h0:=(mem_ready.1 hr).1
    rcases Nat.lt_or_ge i listed.size with h'|h'
    ·simp[h']at h0 ⊢;exact h0
    ·simp[Array.getElem?_eq_none h']
   have hBj:B j=false:=by
    cases hb:B j with
    |false=>rfl
    |true=>
     obtain⟨e,he,hbe,h3⟩:=hB j oj hoj hb
     have h4:=hall e he hbe
     rcases h3 with h3|h3
     ·rw[h3,hnl]at h4;cases h4
     ·rw[hBl _ h3]at h4;cases h4
   obtain⟨hap,hh⟩:=hfree j oj hoj hji hjun hBj
   have hBl':∀k,B k=true→(listed.setIfInBounds j true).getD k false=false:=fun k hk=>by
    by_cases hjk:j=k
    ·subst hjk;rw[hBj]at hk;cases hk
    ·rw[getD_set_ne false hjk];exact hBl k hk
   have hfree':∀k ok,ops[k]?=some ok→k≠i→(listed.setIfInBounds j true).getD k true=false→
     B k=false→oi.apart ops ok=true∧(q k=true∨zcF oi.op=true):=fun k ok hk hki hun hno=>by
    refine hfree k ok hk hki ?_ hno
    by_cases hjk:j=k
    ·subst hjk;exact hjun
    ·rw[getD_set_ne true hjk]at hun;exact hun
   rw[zcc]at h1
   have h2:=zjQ hap hh (fr:=st.fr) (H:=st.H) (n:=st.n) hy h1
   have mono:∀{K1 K2:St→Prop},(∀s,K1 s→K2 s)→zbW P G T N tag0 ops (q j) oj st K1→zbW P G T N tag0 ops (q j) oj st K2:=by
    intro K1 K2 hk hs
    unfold zbW at hs ⊢
    split
    ·rename_i hq
     simp only[hq,if_true]at hs
     obtain⟨e,c',g1,g2,g3,g4⟩:=hs
     exact⟨e,c',g1,g2,g3,hk _ g4⟩
    ·rename_i hq
     simp only[hq]at hs
     split
     ·rename_i hg
      simp[hg]at hs
      refine zcj (fr:=st.fr) (fr2:=st.fr) (fun _ _=>rfl) ?_ hs
      rintro s s2 hK ⟨e,H',n',rfl,rfl⟩
      exact hk _ hK
     ·rename_i hg
      simp[hg]at hs
      exact⟨hs.1,hk _ hs.2⟩
     ·rename_i hg
      simp[hg]at hs
   refine mono (fun s h3=>ih (listed.setIfInBounds j true) s hBl' hfree' (ready_mono hr (Ne.symm hji)) h3.1 ?_) h2
   rw[Array.setIfInBounds_comm _ _ hji,zcc]
   exact h3.2
def zcC (am:Nat→Bool)(T:Tbl)(o:Oper):Bool:=
 match o.op with
 | .move _| .assign _| .pick _ _ _| .build _ _| .load _ _| .nilCheck _| .unOp _ _ _| .convert _ _ _| .slice _ _ _ _ _| .fieldAddr _ _ _| .field _ _ _| .indexAddr _ _ _| .index _ _ _| .extract _ _=>true
 | .buildSlice _ _ _=> !am (o.dst.getD 0)
 | .makeFunc (.func _) _ _=>true
 | .binOp _ _ _ y _=> !zdw y
 | .call c=>
  match c.callee with
  | .value (.func f)=>(T f).isSome
  | .builtin .append=> !am (o.dst.getD 0)
  | .builtin .len| .builtin .max| .builtin .min=>true
  |_=>false
 |_=>false
theorem zdK {o:Oper}{r:Option (D×Prop)}(hr:zbh P T o (st.ev G) st.H=r)(h:Vv N r st o.dst K):∃d c,zbh P T o (st.ev G) st.H=some (d,c)∧za2 N o.dst=true∧c∧K (st.put o.dst d):=by
 obtain⟨⟨d,c⟩,rfl,h1,h2,h3⟩:=zbS h
 exact⟨d,c,hr,h1,h2,h3⟩
theorem zbg {o:Oper}{r:Option (D×Prop)}(hr:zbe P o (st.ev G) st.H=r)(hn:zbe P o (st.ev G) st.H=none→zbh P T o (st.ev G) st.H=none):zbh P T o (st.ev G) st.H=r:=by
 cases r with
 |some r=>unfold zbh;rw[hr]
 |none=>exact hn hr
theorem zBm:∀(o:Oper),zcC am T o=true→XO P G T N tag0 am st K o.dst o.op→∃d c,zbh P T o (st.ev G) st.H=some (d,c)∧za2 N o.dst=true∧c∧K (st.put o.dst d):=by
 intro o hq h
 obtain⟨dst,op,ty,pos,after,guard⟩:=o
 cases op with
 |move x=>exact⟨_,True,rfl,h.1,trivial,h.2⟩
 |assign x=>exact⟨_,True,rfl,h.1,trivial,h.2⟩
 |pick c a b=>exact zdK (zbg rfl fun hn=>by simp only[zbh,hn]) h
 |build t ps=>
  obtain⟨h1,h2⟩:=h
  refine zdK (zbg ?_ fun hn=>by simp only[zbh,hn]) h2
  simp only[zbe]
  rw[if_pos h1]
 |load t a=>exact zdK (zbg rfl fun hn=>by simp only[zbh,hn]) h
 |nilCheck x=>exact zdK (zbg rfl fun hn=>by simp only[zbh,hn]) h
 |binOp op t x y yt=>
  simp only[zcC,Bool.not_eq_true']at hq
  simp only[XO,hq]at h
  exact zdK (zbg rfl fun hn=>by simp only[zbh,hn]) h
 |unOp op t x=>exact zdK (zbg rfl fun hn=>by simp only[zbh,hn]) h
 |convert s t x=>exact zdK (zbg rfl fun hn=>by simp only[zbh,hn]) h
 |makeFunc f first caps=>
  cases f with
  |func f=>
   obtain⟨h1,h2⟩:=h
   simp only[Bool.and_eq_true,beq_iff_eq]at h1
   refine⟨_,True,?_,h1.2,trivial,h2⟩
   simp only[zbh,zbe,h1.1,if_true]
  |_=>exact h.elim
 |slice t x lo hi mx=>exact zdK (zbg rfl fun hn=>by simp only[zbh,hn]) h
 |fieldAddr t x i=>exact zdK (zbg rfl fun hn=>by simp only[zbh,hn]) h
 |field t x i=>exact zdK (zbg rfl fun hn=>by simp only[zbh,hn]) h
 |indexAddr t x i=>exact zdK (zbg rfl fun hn=>by simp only[zbh,hn]) h
 |index t x i=>exact zdK (zbg rfl fun hn=>by simp only[zbh,hn]) h
 |extract x i=>exact zdK (zbg rfl fun hn=>by simp only[zbh,hn]) h
 |buildSlice t n ps=>
  simp only[zcC,Bool.not_eq_true']at hq
  simp only[XO,hq]at h
  exact zdK (o:=⟨dst,.buildSlice t n ps,ty,pos,after,guard⟩) rfl h
 |call c=>
  obtain⟨callee,args,ts⟩:=c
  simp only[XO]at h
  cases callee with
  |value f=>
   cases f with
   |func g=>
    simp only[zcC]at hq
    simp only[zo9]at h
    obtain⟨⟨g',caps⟩,h1,h2⟩:=zbS h
    simp only[St.ev,zwo,Option.some.injEq,Prod.mk.injEq]at h1
    obtain⟨rfl,rfl⟩:=h1
    cases ht:T g with
    |none=>rw[ht]at hq;cases hq
    |some t=>
     simp only[ht]at h2
     obtain⟨xs,h3,h4⟩:=zbS h2
     refine zdK (o:=⟨dst,.call ⟨.value (.func g),args,ts⟩,ty,pos,after,guard⟩) (r:=t xs) ?_ h4
     simp only[zbh,zbe,St.ev,zmS,ht]
     rw[h3]
   |_=>cases hq
  |invoke _ _=>cases hq
  |builtin b=>
   cases b with
   |len=>exact zdK (zbg (o:=⟨dst,.call ⟨.builtin .len,args,ts⟩,ty,pos,after,guard⟩) rfl fun hn=>by simp only[zbh,hn]) h
   |max=>exact zdK (zbg (o:=⟨dst,.call ⟨.builtin .max,args,ts⟩,ty,pos,after,guard⟩) rfl fun hn=>by simp only[zbh,hn]) h
   |min=>exact zdK (zbg (o:=⟨dst,.call ⟨.builtin .min,args,ts⟩,ty,pos,after,guard⟩) rfl fun hn=>by simp only[zbh,hn]) h
   |append=>
    simp only[zcC,Bool.not_eq_true']at hq
    simp only[zo9]at h
    unfold zxU at h
    split at h
    case h_2=>exact h.elim
    rename_i x y t u ha ht
    simp only[hq]at h
    refine zdK (o:=⟨dst,.call ⟨.builtin .append,args,ts⟩,ty,pos,after,guard⟩) ?_ h
    simp only[zbh,zbe,zaT,ha,ht]
   |_=>cases hq
 |_=>cases hq
def zcg (ops:Array Oper)(i:Nat):List Nat:=
 (List.range ops.size).foldl (fun acc j=>match ops[j]? with
  |some oj=>if oj.after.any (fun e=>Region.binds .any e&&(e.on==i||acc.contains e.on))then j::acc else acc
  |none=>acc) []
def zpU (am:Nat→Bool)(T:Tbl)(ops:Array Oper)(listed:Array Bool)(i:Nat):Bool:=
 match ops[i]? with
 |none=>false
 |some oi=>
  ((zcg ops i).all fun j=> !listed.getD j false&&match ops[j]? with
   |some oj=>oj.after.any (fun e=>Region.binds .any e&&(e.on==i||(zcg ops i).contains e.on))
   |none=>true)&&
  (List.range ops.size).all fun j=>j==i||listed.getD j true||(zcg ops i).contains j||match ops[j]? with
   |some oj=>oi.apart ops oj&&(zcC am T oj||zcF oi.op)
   |none=>true
def zip (am:Nat→Bool)(T:Tbl)(ops:Array Oper):Nat→Nat→Array Bool→Bool
 |0,_,listed=>(Region.ready .any ops listed).isEmpty
 |m+1,k,listed=>(match ops[k]? with
   |some o=>if zcC am T o then(Region.ready .any ops listed).contains k&&zpU am T ops listed k else Region.ready .any ops listed==[k]
   |none=>false)&&zip am T ops m (k+1) (listed.setIfInBounds k true)
def zpI (am:Nat→Bool)(T:Tbl)(ops:Array Oper):Bool:=zip am T ops ops.size 0 (Array.replicate ops.size false)
theorem zl7 {listed:Array Bool}{i:Nat}{oi:Oper}(hi:ops[i]?=some oi)(h:zpU am T ops listed i=true):
  (∀j oj,ops[j]?=some oj→(zcg ops i).contains j=true→∃e∈oj.after,Region.binds .any e=true∧(e.on=i∨(zcg ops i).contains e.on=true))∧
  (∀j,(zcg ops i).contains j=true→listed.getD j false=false)∧
  (∀j oj,ops[j]?=some oj→j≠i→listed.getD j true=false→(zcg ops i).contains j=false→oi.apart ops oj=true∧(zcC am T oj=true∨zcF oi.op=true)):=by
 unfold zpU at h
 rw[hi]at h
 simp only[Bool.and_eq_true]at h
 generalize zcg ops i=B at*
 obtain⟨hB,h⟩:=h
 rw[List.all_eq_true]at hB h
 refine⟨fun j oj hj hb=>?_,fun j hb=>?_,fun j oj hj hne hun hno=>?_⟩
 ·have h1:=hB j (by simpa using hb)
  rw[hj]at h1
  simp only[Bool.and_eq_true]at h1
  obtain⟨e,he,h2⟩:=Array.any_eq_true'.1 h1.2
  simp only[Bool.and_eq_true,Bool.or_eq_true,beq_iff_eq]at h2
  exact⟨e,he,h2.1,h2.2⟩
 ·have h1:=hB j (by simpa using hb)
  simp only[Bool.and_eq_true,Bool.not_eq_true']at h1
  exact h1.1
 ·have h1:=h j (by rw[List.mem_range];exact(Array.getElem?_eq_some_iff.1 hj).1)
  rw[hj,hun,hno]at h1
  simpa[hne]using h1
theorem zgR (hT:zam P G T):∀(l:List Oper) (k:Nat) (listed:Array Bool) (st:St),(∀j,l[j]?=ops[k+j]?)→zip am T ops l.length k listed=true→znl P G T N tag0 am ops l K st→
  zrc P G T N tag0 ops (fun i=>((ops[i]?).map (zcC am T)).getD false) K l.length listed st
 |[],k,listed,st,_,hd,hs=>by
  simp only[List.length_nil,zip,List.isEmpty_iff]at hd
  exact⟨hd,hs⟩
 |o::l,k,listed,st,hl,hd,hs=>by
  have h0:ops[k]?=some o:=by have:=hl 0;simpa using this.symm
  have hl':∀j,l[j]?=ops[k+1+j]?:=fun j=>by have:=hl (j+1);simp at this;rw[this];congr 1;omega
  simp only[List.length_cons,zip,h0,Bool.and_eq_true]at hd
  obtain⟨hd1,hd2⟩:=hd
  obtain⟨b,hb,h1,h2⟩:=zbS hs
  simp only[List.length_cons]
  by_cases hq:zcC am T o=true
  ·rw[if_pos hq]at hd1
   simp only[Bool.and_eq_true]at hd1
   have hqk:((ops[k]?).map (zcC am T)).getD false=true:=by rw[h0];exact hq
   have hex:∃d c,qv P G T ops o st=some (d,c)∧za2 N o.dst=true∧c∧znl P G T N tag0 am ops l K (st.put o.dst d):=by
    cases b with
    |true=>
     obtain⟨d,c,g1,g2,g3,g4⟩:=zBm o hq (h1 rfl)
     exact⟨d,c,by simp only[qv,hb];exact g1,g2,g3,g4⟩
    |false=>
     obtain⟨g1,g2⟩:=h2 rfl
     exact⟨.tup [],True,by simp only[qv,hb],g1,trivial,g2⟩
   obtain⟨d,c,g1,g2,g3,g4⟩:=hex
   obtain⟨f1,f2,f3⟩:=zl7 h0 hd1.2
   refine znF h0 hqk g3 g2 (fun j=>(zcg ops k).contains j) f1 l.length listed st f2 ?_ (by simpa using hd1.1) g1 (zgR hT l (k+1) _ _ hl' hd2 g4)
   intro j oj hj hne hun hno
   have:=f3 j oj hj hne hun hno
   rw[hj]
   exact this
  ·rw[if_neg hq]at hd1
   have hr:Region.ready .any ops listed=[k]:=by simpa using hd1
   refine⟨fun h=>(by rw[hr]at h;cases h),fun i hi o' ho'=>?_⟩
   rw[hr]at hi
   obtain rfl:i=k:=by simpa using hi
   rw[h0]at ho'
   obtain rfl:=Option.some.inj ho'
   unfold zbW
   have:(((ops[i]?).map (zcC am T)).getD false)=false:=by rw[h0];simpa using hq
   simp only[this]
   simp only[hb]
   cases b with
   |true=>
    refine zcj (fr:=st.fr) (fr2:=st.fr) (K:=fun s=>znl P G T N tag0 am ops l K s) (fun _ _=>rfl) ?_ (zpa hT o (h1 rfl))
    rintro s s2 hK ⟨e,H',n',rfl,rfl⟩
    exact zgR hT l (i+1) _ _ hl' hd2 hK
   |false=>
    obtain⟨g1,g2⟩:=h2 rfl
    exact⟨g1,zgR hT l (i+1) _ _ hl' hd2 g2⟩
theorem zpj {w':World}(hh:w'.heap=w.heap)(b k:Nat):World.at w' b k=World.at w b k:=zg2 (by rw[hh]) k
theorem zjv {w':World}(hh:w'.heap=w.heap){U:Id→Prop}:Ext w L F U w' L F U:=
 ⟨fun _ h=>h,fun _ _=>rfl,fun _ _ h=>h,fun b k _=>zpj hh b k,by rw[hh];exact Nat.le_refl _,fun b cs T fr _ h=>⟨cs,T,fr,by rw[←hh];exact h,Nat.le_refl _⟩⟩
theorem OkW.heap {w':World}{H:zau}{U:Id→Prop}(hok:OkW G w L F U H)(hh:w'.heap=w.heap):OkW G w' L F U H:=by
 refine⟨by rw[hh];exact hok.fb,fun id o ho=>?_,hok.inj,zcM (fun _ _ h=>h) (fun b k _=>zpj hh b k) hok.glob⟩
 obtain⟨h1,h2⟩:=hok.live id o ho
 exact⟨h1,h2.ext (zjv hh) h1 fun hv=>⟨by rw[hh],(zaC h2 hv).1⟩⟩
theorem zts (hm:P.follows .mixedOrders=true)(hT:zam P G T){Q:Exit→St→Prop}{id:Nat}(hd:zpI am T ops=true)(h:znl P G T N tag0 am ops ops.toList (Q .normal) st):W P G N (.region id ops true) Q st:=by
 intro a w L F hr
 refine wp_region_any hm ?_
 have hr':Rel G N st a {w with drawn:=w.drawn+1} L F:=⟨hr.ok.heap rfl,hr.size,fun t=>(hr.fr t).ext (zjv (w:=w) (w':={w with drawn:=w.drawn+1}) rfl),hr.nd⟩
 have hst:zhZ st w L F st {w with drawn:=w.drawn+1} L F:=⟨fun _ h=>h,fun _ _=>rfl,fun _ _ h=>h,Nat.le_refl _,fun _ _ _=>rfl,fun _ _ _ _=>rfl,fun _ cs T fr _ h=>⟨cs,T,fr,h,Nat.le_refl _⟩,fun _ _ h=> .inl h,fun _ _ h=> .inr h,rfl,rfl,rfl,Nat.le_succ _⟩
 have hd':zip am T ops ops.toList.length 0 (Array.replicate ops.size false)=true:=by simpa[zpI]using hd
 have:=zlJ hT (Q':=fun e a' w'=>Sat G N st w L F (Q e) a' w') _ _ st a _ L F hr' (zgR hT ops.toList 0 _ st (by simp) hd' h) (fun _ _ hs=>hs.trans hst)
 simpa using this
end
end Go.Abs
namespace Go.Abs
open Go
section
variable {P:Program} {G:Nat→List FD} {T:Tbl} {N tag0:Nat} {am:Nat→Bool} {st:St} {a:Act} {w:World} {L:Loc} {F:Nat→Nat→Prop} {K:St→Prop} {Q:Exit→St→Prop}
def zA9 (R:St→Prop)(Q:Exit→St→Prop):Exit→St→Prop
 | .normal,st=>R st
 | .exit i,st=>Q (.exit i) st
 | .goto l,st=>Q (.goto l) st
 | .ret,st=>Q .ret st
 | .panic c,st=>Q (.panic c) st
 | .outgrown,st=>Q .outgrown st
def zrB (x y:Prop):D→Prop
 | .fz (.b t)=>zdn t x y
 |_=>False
def XC (P:Program)(G:Nat→List FD)(T:Tbl)(N tag0:Nat)(am:Nat→Bool):Code→(Exit→St→Prop)→St→Prop
 | .skip,Q,st=>Q .normal st
 | .seq x y,Q,st=>XC P G T N tag0 am x (zA9 (XC P G T N tag0 am y Q) Q) st
 | .cond c x y,Q,st=>zrB (XC P G T N tag0 am x Q st) (XC P G T N tag0 am y Q st) (st.ev G c)
 | .block id c,Q,st=>XC P G T N tag0 am c (zg3 id Q) st
 | .exit id,Q,st=>Q (.exit id) st
 | .ret,Q,st=>Q .ret st
 | .region _ ops false,Q,st=>znl P G T N tag0 am ops ops.toList (Q .normal) st
 | .region id ops true,Q,st=>zdn (am (1000000+id)) (W P G N (.region id ops true) Q st) (znl P G T N tag0 am ops ops.toList (Q .normal) st)
 |c,Q,st=>W P G N c Q st
def zcz (am:Nat→Bool)(T:Tbl):Code→Bool
 | .seq x y=>zcz am T x&&zcz am T y
 | .cond _ x y=>zcz am T x&&zcz am T y
 | .block _ c=>zcz am T c
 | .region id ops true=>am (1000000+id)||zpI am T ops
 |_=>true
theorem zlG (hm:P.follows .mixedOrders=true)(hT:zam P G T):∀(c:Code) (Q:Exit→St→Prop) (st:St),zcz am T c=true→XC P G T N tag0 am c Q st→W P G N c Q st
 | .skip,_,_,_,h=>zvX h
 | .seq x y,Q,st,hd,h=>by
  simp only[XC]at h
  simp only[zcz,Bool.and_eq_true]at hd
  refine zzt (zvW (zlG hm hT x _ st hd.1 h) fun e st1 h1=>?_)
  cases e with
  |normal=>exact zlG hm hT y Q st1 hd.2 h1
  |_=>exact h1
 | .cond c x y,Q,st,hd,h=>by
  simp only[XC]at h
  simp only[zcz,Bool.and_eq_true]at hd
  unfold zrB at h
  split at h
  ·rename_i t ht
   exact zvT ht (fun hh=>zlG hm hT x Q st hd.1 (h.1 hh)) (fun hh=>zlG hm hT y Q st hd.2 (h.2 hh))
  ·exact h.elim
 | .block id c,Q,st,hd,h=>by
  simp only[XC]at h
  exact ztq (zlG hm hT c _ st hd h)
 | .exit id,_,_,_,h=>zvU h
 | .ret,_,_,_,h=>zzs h
 | .region _ ops false,Q,st,_,h=>by
  simp only[XC]at h
  exact zo3 hT h
 | .region id ops true,Q,st,hd,h=>by
  simp only[XC]at h
  simp only[zcz]at hd
  cases ha:am (1000000+id)with
  |true=>exact h.1 ha
  |false=>exact zts hm hT (by simpa[ha]using hd) (h.2 ha)
 | .loop _,Q,st,_,h=>by simpa only[XC]using h
 | .rangeFunc _ _ _ _,Q,st,_,h=>by simpa only[XC]using h
 | .scope _,Q,st,_,h=>by simpa only[XC]using h
 | .label _,Q,st,_,h=>by simpa only[XC]using h
 | .goto _,Q,st,_,h=>by simpa only[XC]using h
 | .refuse _,Q,st,_,h=>by simpa only[XC]using h
theorem zjf {ts:Array TypeId}{x:D}:zaT P .len ts [x]=ob ts[0]? fun t=>zkv P t x:=by
 simp only[zaT];cases ts[0]?<;>rfl
theorem zjg {ts:Array TypeId}{k k':IntKind}{x y:Int}:zaT P .max ts [.fz (.i k x),.fz (.i k' y)]=some (.fz (.i k (max x y)),k=k'):=rfl
theorem zjh {ts:Array TypeId}{k k':IntKind}{x y:Int}:zaT P .min ts [.fz (.i k x),.fz (.i k' y)]=some (.fz (.i k (min x y)),k=k'):=rfl
def zBj (P:Program)(fn:Func)(Q:D→zau→Nat→Prop)(st:St):Prop:=
 Bi (zdS P st fn.results.toList) fun dc=>Req dc.2 (Q (one dc.1) st.H st.n)
theorem zo2 {fn:Func}{R:D→zau→Nat→Prop}:(match zdS P st fn.results.toList with
  |some (ds,c)=>c∧R (one ds) st.H st.n
  |none=>False)=zBj P fn R st:=by
 unfold zBj Bi Req
 cases zdS P st fn.results.toList<;>rfl
theorem zqD {t:Nat}:zjK P st (.tmp t)=some (st.fr t,True):=rfl
theorem zoy {t ty:Nat}:zjK P st (.cell t ty)=zed P st.H ty (st.fr t):=rfl
theorem zqE:zdS P st []=some ([],True):=rfl
theorem zoz {r:ResultVar}{rs:List ResultVar}:zdS P st (r::rs)=ob (zjK P st r) fun a=>ob (zdS P st rs) fun b=>some (a.1::b.1,a.2∧b.2):=by
 simp only[zdS]
 unfold ob
 cases zjK P st r with
 |none=>rfl
 |some a=>simp only;cases zdS P st rs<;>rfl
def zg1:Nat→List D→List (Nat×D)
 |_,[]=>[]
 |k,d::ds=>(k,d)::zg1 (k+1) ds
theorem zmU:∀(ds:List D) (k t:Nat),frL (zg1 k ds) t=if t<k then .junk else ds.getD (t-k) .junk
 |[],k,t=>by simp[zg1,frL]
 |d::ds,k,t=>by
  simp only[zg1,frL,zmU ds (k+1) t]
  by_cases h:t=k
  ·subst h;simp
  ·rw[if_neg h]
   by_cases h2:t<k
   ·rw[if_pos (by omega),if_pos h2]
   ·rw[if_neg (by omega),if_neg h2]
    have:t-k=(t-(k+1))+1:=by omega
    rw[this];rfl
theorem zdL (ds:List D):zi4 ds=frL (zg1 0 ds):=by
 funext t;rw[zmU];simp[zi4]
theorem ztt (hm:P.follows .mixedOrders=true)(hT:zam P G T){f:FuncId}{fn:Func}{c:Code}{args:List D}{H:zau}{n:Nat}{R:D→zau→Nat→Prop}(tag0:Nat)(am:Nat→Bool)(hcall:zat P f)(hf:P.funcs[f]?=some fn)(hb:fn.body=some c){N:Nat}(hN:fn.ntmps=N)(hl:args.length≤N)
  (hd:zcz am T c=true)(h:XC P G T N tag0 am c (zzo P fn R) ⟨frL (zg1 0 args),H,n⟩):zaE P G f args H n R:=
 zlE hcall hf hb hN hl (by rw[zdL];exact zlG hm hT _ _ _ hd h)
end
end Go.Abs
namespace Go.Abs
open Go
class Kn (α:Type) where
 run:α→Prop
class Ko (α β:Type) where
 run:α→Option β
class Kp where
 p:Prop
class Kd where
 run:D→zau→Nat→Prop
class Ke where
 run:Exit→St→Prop
def zt2:List FD→D
 |[]=> .junk
 |x::xs=> .rp (x::xs)
def BiK {α:Type}(r:Option α)[k:Kn α]:Prop:=Bi r k.run
def obK {α β:Type}(r:Option α)[k:Ko α β]:Option β:=ob r k.run
def zaG (c:Prop)[k:Kp]:Prop:=Req c k.p
def zgT (b:Bool)[k:Kp]:Prop:=Chk b k.p
def zaX (b:Bool)[x:Kp][y:Kp]:Prop:=zdn b x.p y.p
def VvK (N:Nat)(r:Option (D×Prop))(st:St)(dst:Option Tmp)[k:Kn St]:Prop:=Vv N r st dst k.run
def XOK (P:Program)(G:Nat→List FD)(T:Tbl)(N tag0:Nat)(am:Nat→Bool)(st:St)(dst:Option Tmp)(o:Op)[k:Kn St]:Prop:=XO P G T N tag0 am st k.run dst o
def zi0 (P:Program)(N:Nat)(op:BinOp)(t:TypeId)(x:D)(st:St)(dst:Option Tmp)[k:Kn St]:Prop:=zuU P N op t x st dst k.run
def zib (P:Program)(G:Nat→List FD)(N:Nat)(g:FuncId)(args:List D)(st:St)(dst:Option Tmp)(r:Option (List FD→Option (D×Prop)))[k:Kn St]:Prop:=zv1 P G N g args st dst k.run r
def zgX (te:TI)(s:Nat×List D×Prop)(tag:Nat)(st:St)(dst:Option Tmp)(x:D)[k:Kn St]:Prop:=ztv te s tag st dst k.run x
def zgY (te:TI)(tag:Nat)(om:Bool)(y x:D)(st:St)(dst:Option Tmp)[k:Kn St]:Prop:=zvZ te tag om st dst k.run y x
def znC (P:Program)(G:Nat→List FD)(N tag:Nat)(am om:Bool)(args:List Operand)(ts:List TypeId)(st:St)(dst:Option Tmp)[k:Kn St]:Prop:=zxU P G N tag am om args ts st dst k.run
def ze7 (P:Program)(G:Nat→List FD)(T:Tbl)(N tag:Nat)(am om:Bool)(args:Array Operand)(ts:Array TypeId)(st:St)(dst:Option Tmp)(c:Callee)[k:Kn St]:Prop:=zo9 P G T N tag am om args ts st dst k.run c
def zhQ (P:Program)(G:Nat→List FD)(T:Tbl)(N tag0:Nat)(am:Nat→Bool)(ops:Array Oper)(os:List Oper)(st:St)[k:Kn St]:Prop:=znl P G T N tag0 am ops os k.run st
def XCK (P:Program)(G:Nat→List FD)(T:Tbl)(N tag0:Nat)(am:Nat→Bool)(c:Code)(st:St)[q:Ke]:Prop:=XC P G T N tag0 am c q.run st
def znO (d:D)[x:Kp][y:Kp]:Prop:=zrB x.p y.p d
def ztj (e:Exit)(st:St)[r:Kn St][q:Ke]:Prop:=zA9 r.run q.run e st
def ze8 (id:Nat)(e:Exit)(st:St)[q:Ke]:Prop:=zg3 id q.run e st
def zuT (P:Program)(fn:Func)(e:Exit)(st:St)[r:Kd]:Prop:=zzo P fn r.run e st
def zaF (P:Program)(G:Nat→List FD)(f:FuncId)(args:List D)(H:zau)(n:Nat)[r:Kd]:Prop:=zaE P G f args H n r.run
def WK (P:Program)(G:Nat→List FD)(N:Nat)(c:Code)(st:St)[q:Ke]:Prop:=W P G N c q.run st
@[go_sem] theorem zFy {α:Type}{a:α}{k:α→Prop}:@BiK α (some a) ⟨k⟩=k a:=(rfl)
@[go_sem] theorem zFJ {α β:Type}{a:α}{k:α→Option β}:@obK α β (some a) ⟨k⟩=k a:=(rfl)
@[go_sem] theorem zEh {k:Prop}:@zaG True ⟨k⟩=k:=zro
@[go_sem] theorem zEg {k:Prop}:@zgT true ⟨k⟩=k:=zrl
@[go_sem] theorem zFD {x y:Prop}:@zaX true ⟨x⟩ ⟨y⟩=x:=znx
@[go_sem] theorem zFA {x y:Prop}:@zaX false ⟨x⟩ ⟨y⟩=y:=zlA
@[go_sem] theorem zFB {b:Bool}{x y:Prop}:@zaX (!b) ⟨x⟩ ⟨y⟩=@zaX b ⟨y⟩ ⟨x⟩:=by
 cases b<;>simp[zaX,zdn]
@[go_sem] theorem zFC {a b:Bool}{x y:Prop}:@zaX (a||b) ⟨x⟩ ⟨y⟩=@zaX a ⟨x⟩ ⟨@zaX b ⟨x⟩ ⟨y⟩⟩:=by
 cases a<;>simp[zaX,zdn]
@[go_sem] theorem zFz {a b:Bool}{x y:Prop}:@zaX (a&&b) ⟨x⟩ ⟨y⟩=@zaX a ⟨@zaX b ⟨x⟩ ⟨y⟩⟩ ⟨y⟩:=by
 cases a<;>simp[zaX,zdn]
theorem zaG.i {c k:Prop}(h:c)(h':c→k):@zaG c ⟨k⟩:=⟨h,h' h⟩
theorem zaX.i {b:Bool}{x y:Prop}(h:b=true→x)(h':b=false→y):@zaX b ⟨x⟩ ⟨y⟩:=⟨h,h'⟩
theorem zaX.d {p:Prop}[Decidable p]{x y:Prop}(h:p→x)(h':¬p→y):@zaX (decide p) ⟨x⟩ ⟨y⟩:=⟨fun e=>h (by simpa using e),fun e=>h' (by simpa using e)⟩
attribute [go_sem] zr2 zt0 zst zss zxs zEY zEZ zBa zwn zrW ztP zlR znP zi9 znQ zlS zsL zq1 znX znW zyc
attribute [go_sem] Option.bind_some zg1 D.toFD D.toFDs
attribute [go_sem] decide_true decide_false Bool.and_true Bool.true_and Bool.and_false Bool.false_and Bool.or_true Bool.true_or Bool.or_false Bool.false_or Bool.not_true Bool.not_false beq_self_eq_true and_true true_and or_true true_or or_false false_or and_false false_and not_true_eq_false not_false_eq_true if_true if_false ne_eq Bool.false_eq_true eq_self implies_true Bool.not_not beq_true beq_false Bool.not_eq_true Bool.not_eq_false forall_const
attribute [go_sem] Prod.mk.injEq List.getD_cons_zero List.getD_cons_succ List.getElem?_cons_zero List.getElem?_cons_succ List.take_succ_cons List.take_zero List.drop_succ_cons List.drop_zero List.take_nil List.drop_nil List.length_cons List.length_nil List.map_cons List.map_nil List.all_cons List.all_nil List.getElem?_toArray Option.map_some Option.map_none Option.isSome_some Option.getD_some Option.getD_none List.cons_append List.nil_append List.append_nil List.map_map
@[go_sem] theorem zut {α:Type}{l:List α}:(List.toArray l).toList=l:=rfl
@[go_sem] theorem zmc:IntKind.min .i64= -9223372036854775808:=rfl
@[go_sem] theorem zmb:IntKind.max .i64=9223372036854775807:=rfl
@[go_sem] theorem zDe:IntKind.min .u8=0:=rfl
@[go_sem] theorem zDd:IntKind.max .u8=255:=rfl
@[go_sem] theorem zzN:IntKind.min .i32= -2147483648:=rfl
@[go_sem] theorem zzM:IntKind.max .i32=2147483647:=rfl
@[go_sem] theorem zBe:IntKind.min .u64=0:=rfl
@[go_sem] theorem zBd:IntKind.max .u64=18446744073709551615:=rfl
@[go_sem] theorem zxm {α:Type}{l:List α}:(List.toArray l).size=l.length:=rfl
section
variable {P:Program} {G:Nat→List FD} {T:Tbl} {N tag0 tag:Nat} {am:Nat→Bool} {ab ob2:Bool} {st:St} {k:St→Prop} {q:Exit→St→Prop} {kr:D→zau→Nat→Prop} {dst:Option Tmp} {ops:Array Oper} {os:List Oper} {o:Oper} {x y z f a:Operand} {t u:TypeId} {args:Array Operand} {ts:Array TypeId}
@[go_sem] theorem zFE {r:Option (D×Prop)}:@VvK N r st dst ⟨k⟩=@BiK _ r ⟨fun dc=>@zgT (za2 N dst) ⟨@zaG dc.2 ⟨k (st.put dst dc.1)⟩⟩⟩:=(rfl)
@[go_sem] theorem zyZ:@XOK P G T N tag0 am st dst (.move x) ⟨k⟩=@zgT (za2 N dst) ⟨k (st.put dst (st.ev G x))⟩:=(rfl)
@[go_sem] theorem zvC:@XOK P G T N tag0 am st dst (.assign x) ⟨k⟩=@zgT (za2 N dst) ⟨k (st.put dst (st.ev G x))⟩:=(rfl)
@[go_sem] theorem zy0:@XOK P G T N tag0 am st dst (.pick x y z) ⟨k⟩=@VvK N (zfh (st.ev G x) (st.ev G y) (st.ev G z)) st dst ⟨k⟩:=(rfl)
@[go_sem] theorem zxc {ps:Array (Nat×Operand)}:@XOK P G T N tag0 am st dst (.build t ps) ⟨k⟩=@zgT (ps.toList.all fun p=>(st.ev G p.2).known) ⟨@VvK N (zd9 P t (ps.toList.map fun p=>(p.1,st.ev G p.2))) st dst ⟨k⟩⟩:=(rfl)
@[go_sem] theorem zyX:@XOK P G T N tag0 am st dst (.load t a) ⟨k⟩=@VvK N (zed P st.H t (st.ev G a)) st dst ⟨k⟩:=(rfl)
@[go_sem] theorem zAW:@XOK P G T N tag0 am st dst (.nilCheck x) ⟨k⟩=@VvK N (zlX (st.ev G x)) st dst ⟨k⟩:=(rfl)
@[go_sem] theorem zAU {op:BinOp}:@XOK P G T N tag0 am st dst (.binOp op t x y u) ⟨k⟩=@zaX (zdw y) ⟨@zi0 P N op t (st.ev G x) st dst ⟨k⟩⟩ ⟨@VvK N (zcY P op t (st.ev G x) (st.ev G y)) st dst ⟨k⟩⟩:=by
 simp only[XOK,XO,zaX,zdn,zi0,VvK]
 cases zdw y<;>simp
@[go_sem] theorem zCs {op:UnOp}:@XOK P G T N tag0 am st dst (.unOp op t x) ⟨k⟩=@VvK N (ztN op (st.ev G x)) st dst ⟨k⟩:=(rfl)
@[go_sem] theorem zyW:@XOK P G T N tag0 am st dst (.convert t u x) ⟨k⟩=@VvK N (zdd P t u (st.ev G x)) st dst ⟨k⟩:=(rfl)
@[go_sem] theorem zCr {g:FuncId}{first caps:Array Operand}:@XOK P G T N tag0 am st dst (.makeFunc (.func g) first caps) ⟨k⟩=@zgT (first.size==0&&za2 N dst) ⟨k (st.put dst (.fn g (caps.toList.map (st.ev G))))⟩:=(rfl)
@[go_sem] theorem zxd {lo hi mx:Option Operand}:@XOK P G T N tag0 am st dst (.slice t x lo hi mx) ⟨k⟩=@VvK N (zaN P t (st.ev G x) (lo.map (st.ev G)) (hi.map (st.ev G)) (mx.map (st.ev G))) st dst ⟨k⟩:=(rfl)
@[go_sem] theorem zCn {i:Nat}:@XOK P G T N tag0 am st dst (.fieldAddr t x i) ⟨k⟩=@VvK N (zbw P t (st.ev G x) i) st dst ⟨k⟩:=(rfl)
@[go_sem] theorem zCo {i:Nat}:@XOK P G T N tag0 am st dst (.field t x i) ⟨k⟩=@VvK N (zea P t (st.ev G x) i) st dst ⟨k⟩:=(rfl)
@[go_sem] theorem zCp:@XOK P G T N tag0 am st dst (.indexAddr t x y) ⟨k⟩=@VvK N (zbx P t (st.ev G x) (st.ev G y)) st dst ⟨k⟩:=(rfl)
@[go_sem] theorem zCq:@XOK P G T N tag0 am st dst (.index t x y) ⟨k⟩=@VvK N (zec P t (st.ev G x) (st.ev G y)) st dst ⟨k⟩:=(rfl)
@[go_sem] theorem zCm {i:Nat}:@XOK P G T N tag0 am st dst (.extract x i) ⟨k⟩=@VvK N (zcZ (st.ev G x) i) st dst ⟨k⟩:=(rfl)
@[go_sem] theorem zyV {c:Call}:@XOK P G T N tag0 am st dst (.call c) ⟨k⟩=@ze7 P G T N (tag0+dst.getD 0) (am (dst.getD 0)) (am (2000000+dst.getD 0)) c.args c.argTypes st dst c.callee ⟨k⟩:=(rfl)
@[go_sem] theorem zxb:@XOK P G T N tag0 am st dst (.alloc t) ⟨k⟩=@BiK _ (zas P t) ⟨fun ti=>@zgT (za2 N dst) ⟨k (st.new (tag0+dst.getD 0,st.n) ⟨ti.zero,true,false⟩ dst (.ptr (tag0+dst.getD 0,st.n) 0))⟩⟩:=(rfl)
@[go_sem] theorem zAV:@XOK P G T N tag0 am st dst (.box t x) ⟨k⟩=@zgT (za2 N dst&&(st.ev G x).known) ⟨k (st.new (tag0+dst.getD 0,st.n) ⟨(st.ev G x).cs,true,false⟩ dst (.ptr (tag0+dst.getD 0,st.n) 0))⟩:=(rfl)
@[go_sem] theorem zyY:@XOK P G T N tag0 am st dst (.makeSlice t x y) ⟨k⟩=@BiK _ (zaw P t) ⟨fun te=>@BiK _ (zme (st.ev G x)) ⟨fun n=>@BiK _ (zme (st.ev G y)) ⟨fun m=>@zgT (za2 N dst) ⟨@zaG (m=n∧0≤n∧n.toNat≤zbj∧te.bytes*n≤2^48) ⟨k (st.new (tag0+dst.getD 0,st.n) ⟨(List.range (n.toNat*te.size)).map fun j=>te.zero.getD (j % te.size) .junk,false,false⟩ dst (.arr (tag0+dst.getD 0,st.n) te.size 0 n.toNat))⟩⟩⟩⟩⟩:=(rfl)
@[go_sem] theorem zCl {n:Nat}{ps:Array (Nat×Operand)}:@XOK P G T N tag0 am st dst (.buildSlice t n ps) ⟨k⟩=@zaX (am (dst.getD 0)) ⟨@BiK _ (zaw P t) ⟨fun te=>@zgT (za2 N dst&&ps.toList.all fun p=>zsO te.size (st.ev G p.2)) ⟨@zaG (ps.toList.map (·.1)=List.range n∧n≤2^24∧n*te.size≤2^24) ⟨k (st.new (tag0+dst.getD 0,st.n) ⟨ps.toList.flatMap fun p=>(st.ev G p.2).cs,false,false⟩ dst (.arr (tag0+dst.getD 0,st.n) te.size 0 n))⟩⟩⟩⟩ ⟨@VvK N (zbY P t n (ps.toList.map (·.1)) (ps.toList.map fun p=>st.ev G p.2)) st dst ⟨k⟩⟩:=by
 simp only[XOK,XO,zaX,zdn,VvK,zjY,BiK,zgT,zaG]
 cases am (dst.getD 0)<;>simp
@[go_sem] theorem zxe:@XOK P G T N tag0 am st dst (.store t a x) ⟨k⟩=@BiK _ (zas P t) ⟨fun ti=>@BiK _ (zsq (st.ev G a)) ⟨fun p=>@BiK _ (st.H p.1) ⟨fun o=>@zaG (dst=none∧o.virt=false∧(st.ev G x).known=true∧(st.ev G x).cs.all zcm=true∧(st.ev G x).cs.length=ti.size∧p.2+ti.size≤o.cells.length) ⟨k {st with H:=zaK st.H p.1 (some {o with cells:=zdA o.cells p.2 (st.ev G x).cs})}⟩⟩⟩⟩:=(rfl)
@[go_sem] theorem zz4:@ze7 P G T N tag ab ob2 args ts st dst (.value f) ⟨k⟩=@BiK _ (zwo (st.ev G f)) ⟨fun gc=>@zib P G N gc.1 (args.toList.map (st.ev G)++gc.2) st dst (T gc.1) ⟨k⟩⟩:=(rfl)
@[go_sem] theorem zz0:@ze7 P G T N tag ab ob2 args ts st dst (.builtin .append) ⟨k⟩=@znC P G N tag ab ob2 args.toList ts.toList st dst ⟨k⟩:=(rfl)
@[go_sem] theorem zz1:@ze7 P G T N tag ab ob2 args ts st dst (.builtin .len) ⟨k⟩=@VvK N (zaT P .len ts (args.toList.map (st.ev G))) st dst ⟨k⟩:=(rfl)
@[go_sem] theorem zz2:@ze7 P G T N tag ab ob2 args ts st dst (.builtin .max) ⟨k⟩=@VvK N (zaT P .max ts (args.toList.map (st.ev G))) st dst ⟨k⟩:=(rfl)
@[go_sem] theorem zz3:@ze7 P G T N tag ab ob2 args ts st dst (.builtin .min) ⟨k⟩=@VvK N (zaT P .min ts (args.toList.map (st.ev G))) st dst ⟨k⟩:=(rfl)
@[go_sem] theorem zzV:@znC P G N tag true ob2 [x,y] [t,u] st dst ⟨k⟩=@BiK _ (zaw P t) ⟨fun te=>@BiK _ (zas P u) ⟨fun ui=>@zgT (za2 N dst&&ui.isSlice) ⟨@zgY te tag ob2 (st.ev G y) (st.ev G x) st dst ⟨k⟩⟩⟩⟩:=(rfl)
@[go_sem] theorem zwD {te:TI}{d:D}{id:Id}{es:Nat}{xs:List FD}:@zgY te tag ob2 d (.ow id es xs) st dst ⟨k⟩=@BiK _ (zri st.H te d) ⟨fun yc=>@BiK _ (st.H id) ⟨fun _=>@zaG (es=te.size∧zbi xs te.size∧yc.2∧(zag yc.1).all zcm=true∧fits (xs.length+yc.1.length) te.bytes)
   ⟨k (({st with H:=zaK st.H id none}:St).new (tag,st.n) tok dst (.ow (tag,st.n) te.size (xs++yc.1)))⟩⟩⟩:=(rfl)
@[go_sem] theorem zub {te:TI}{d:D}{xs:List FD}:@zgY te tag ob2 d (.full xs) st dst ⟨k⟩=@zaX ob2 ⟨@BiK _ (zri st.H te d) ⟨fun yc=>@zaG (zbi xs te.size∧yc.2∧fits (xs.length+yc.1.length) te.bytes) ⟨k (st.new (tag,st.n) tok dst (.ow (tag,st.n) te.size (xs++yc.1)))⟩⟩⟩
   ⟨@BiK _ (zbn st.H te d) ⟨fun s=>@zgX te s tag st dst (.full xs) ⟨k⟩⟩⟩:=(rfl)
@[go_sem] theorem zvz {H:zau}{te:TI}{id:Id}{es b len:Nat}:zri H te (.arr id es b len)=@obK _ _ (H id) ⟨fun o=>@obK _ _ (zsK ((o.cells.drop b).take (len*te.size))) ⟨fun ys=>some (ys,te.size=1∧es=te.size∧b+len*te.size≤o.cells.length)⟩⟩:=(rfl)
@[go_sem] theorem zw5 {H:zau}{te:TI}{ys:List FD}:zri H te (.fz (.sl ys))=some (ys,zbi ys te.size):=(rfl)
@[go_sem] theorem zuo {H:zau}{te:TI}{ys:List FD}:zri H te (.full ys)=some (ys,zbi ys te.size):=(rfl)
@[go_sem] theorem zw4 {H:zau}{te:TI}{id:Id}{es:Nat}{ys:List FD}:zri H te (.ow id es ys)=some (ys,zbi ys te.size):=(rfl)
@[go_sem] theorem zvh {te:TI}{d:D}{id:Id}{es b len:Nat}:@zgY te tag ob2 d (.arr id es b len) st dst ⟨k⟩=@BiK _ (zbn st.H te d) ⟨fun s=>@zgX te s tag st dst (.arr id es b len) ⟨k⟩⟩:=(rfl)
@[go_sem] theorem zzU:@znC P G N tag false ob2 [x,y] [t,u] st dst ⟨k⟩=@VvK N (zex P t u (st.ev G x) (st.ev G y)) st dst ⟨k⟩:=(rfl)
@[go_sem] theorem zAT {g:FuncId}{ds:List D}{tf:List FD→Option (D×Prop)}:@zib P G N g ds st dst (some tf) ⟨k⟩=@BiK _ (D.toFDs ds) ⟨fun xs=>@VvK N (tf xs) st dst ⟨k⟩⟩:=(rfl)
@[go_sem] theorem zAS {g:FuncId}{ds:List D}:@zib P G N g ds st dst none ⟨k⟩=@zgT (za2 N dst) ⟨@zaF P G g ds st.H st.n ⟨fun d H n=>k (({st with H:=H,n:=n}:St).put dst d)⟩⟩:=(rfl)
@[go_sem] theorem zBI {te:TI}{s:Nat×List D×Prop}{xs:List FD}:@zgX te s tag st dst (.full xs) ⟨k⟩=@zaG (s.2.2∧zbi xs te.size∧0<te.size∧(0<s.1∨xs=[])∧fits (xs.length+s.1) te.bytes) ⟨k (st.new (tag,st.n) ⟨zag xs++s.2.1,false,(zag xs++s.2.1).isEmpty⟩ dst (.arr (tag,st.n) te.size 0 (xs.length+s.1)))⟩:=(rfl)
@[go_sem] theorem zBH {te:TI}{s:Nat×List D×Prop}{id:Id}{es b len:Nat}:@zgX te s tag st dst (.arr id es b len) ⟨k⟩=@BiK _ (st.H id) ⟨fun o=>@zaG (s.2.2∧es=te.size∧b+len*te.size≤o.cells.length∧s.2.1.all zcm=true∧0<te.size∧fits (len+s.1) te.bytes) ⟨k (({st with H:=zaK st.H id none}:St).new (tag,st.n) ⟨(o.cells.drop b).take (len*te.size)++s.2.1,false,o.virt&&((o.cells.drop b).take (len*te.size)++s.2.1).isEmpty⟩ dst (.arr (tag,st.n) te.size 0 (len+s.1)))⟩⟩:=(rfl)
@[go_sem] theorem zyS:@zhQ P G T N tag0 am ops [] st ⟨k⟩=k st:=(rfl)
@[go_sem] theorem zw6:@zhQ P G T N tag0 am ops (o::os) st ⟨k⟩=@BiK _ (zly ops st.fr o.guard) ⟨fun b=>@zaX b ⟨@XOK P G T N tag0 am st o.dst o.op ⟨fun st=>@zhQ P G T N tag0 am ops os st ⟨k⟩⟩⟩ ⟨@zgT (za2 N o.dst) ⟨@zhQ P G T N tag0 am ops os (st.put o.dst (.tup [])) ⟨k⟩⟩⟩⟩:=(rfl)
@[go_sem] theorem zwI:@XCK P G T N tag0 am (.skip) st ⟨q⟩=q .normal st:=(rfl)
@[go_sem] theorem zyj {c d:Code}:@XCK P G T N tag0 am (.seq c d) st ⟨q⟩=@XCK P G T N tag0 am c st ⟨fun e st=>@ztj e st ⟨fun st=>@XCK P G T N tag0 am d st ⟨q⟩⟩ ⟨q⟩⟩:=(rfl)
@[go_sem] theorem zwE {c d:Code}:@XCK P G T N tag0 am (.cond x c d) st ⟨q⟩=@znO (st.ev G x) ⟨@XCK P G T N tag0 am c st ⟨q⟩⟩ ⟨@XCK P G T N tag0 am d st ⟨q⟩⟩:=(rfl)
@[go_sem] theorem zvi {i:Nat}{c:Code}:@XCK P G T N tag0 am (.block i c) st ⟨q⟩=@XCK P G T N tag0 am c st ⟨fun e st=>@ze8 i e st ⟨q⟩⟩:=(rfl)
@[go_sem] theorem zwG {i:Nat}:@XCK P G T N tag0 am (.exit i) st ⟨q⟩=q (.exit i) st:=(rfl)
@[go_sem] theorem zyi:@XCK P G T N tag0 am (.ret) st ⟨q⟩=q .ret st:=(rfl)
@[go_sem] theorem zuc {i:Nat}:@XCK P G T N tag0 am (.region i ops false) st ⟨q⟩=@zhQ P G T N tag0 am ops ops.toList st ⟨q .normal⟩:=(rfl)
@[go_sem] theorem zwF {i:Nat}:@XCK P G T N tag0 am (.region i ops true) st ⟨q⟩=@zaX (am (1000000+i)) ⟨@WK P G N (.region i ops true) st ⟨q⟩⟩ ⟨@zhQ P G T N tag0 am ops ops.toList st ⟨q .normal⟩⟩:=(rfl)
@[go_sem] theorem zwH {c:Code}:@XCK P G T N tag0 am (.loop c) st ⟨q⟩=@WK P G N (.loop c) st ⟨q⟩:=(rfl)
@[go_sem] theorem zz7 {b:Bool}{p1 p2:Prop}:@znO (.fz (.b b)) ⟨p1⟩ ⟨p2⟩=@zaX b ⟨p1⟩ ⟨p2⟩:=(rfl)
@[go_sem] theorem zCe:@ztj .normal st ⟨k⟩ ⟨q⟩=k st:=(rfl)
@[go_sem] theorem zCd {i:Nat}:@ztj (.exit i) st ⟨k⟩ ⟨q⟩=q (.exit i) st:=(rfl)
@[go_sem] theorem zCf:@ztj .ret st ⟨k⟩ ⟨q⟩=q .ret st:=(rfl)
@[go_sem] theorem zBJ {i j:Nat}:@ze8 j (.exit i) st ⟨q⟩=@zaX (i==j) ⟨q .normal st⟩ ⟨q (.exit i) st⟩:=by
 simp only[ze8,zg3,zaX,zdn]
 by_cases h:i=j<;>simp[h]
@[go_sem] theorem zBK {j:Nat}:@ze8 j .normal st ⟨q⟩=q .normal st:=(rfl)
@[go_sem] theorem zBL {j:Nat}:@ze8 j .ret st ⟨q⟩=q .ret st:=(rfl)
@[go_sem] theorem zCb {fn:Func}:@zuT P fn .normal st ⟨kr⟩=@BiK _ (zdS P st fn.results.toList) ⟨fun dc=>@zaG dc.2 ⟨kr (one dc.1) st.H st.n⟩⟩:=zo2
@[go_sem] theorem zCc {fn:Func}:@zuT P fn .ret st ⟨kr⟩=@BiK _ (zdS P st fn.results.toList) ⟨fun dc=>@zaG dc.2 ⟨kr (one dc.1) st.H st.n⟩⟩:=zo2
attribute [go_sem] zqD zoy zqE
@[go_sem] theorem zCa {r:ResultVar}{rs:List ResultVar}:zdS P st (r::rs)=@obK _ _ (zjK P st r) ⟨fun a=>@obK _ _ (zdS P st rs) ⟨fun b=>some (a.1::b.1,a.2∧b.2)⟩⟩:=zoz
@[go_sem] theorem zB8 {d:D}:one [d]=d:=rfl
@[go_sem] theorem zB7:one []= .tup []:=rfl
@[go_sem] theorem zB9 {d e:D}{ds:List D}:one (d::e::ds)= .tup (d::e::ds):=rfl
@[go_sem] theorem zFH {fr:Nat→D}:zly ops fr none=some true:=rfl
@[go_sem] theorem zFI {fr:Nat→D}{jw:Nat×Bool}:zly ops fr (some jw)=@obK _ _ ((ops[jw.1]?).bind (·.dst)) ⟨fun t=>gv2 jw.2 (fr t)⟩:=rfl
@[go_sem] theorem zFF {b c:Bool}:gv2 c (.fz (.b b))=some (b==c):=rfl
@[go_sem] theorem zFG {c:Bool}:gv2 c (.tup [])=some false:=rfl
@[go_sem] theorem zuf {g:Nat}:St.ev G st (.global g)=zt2 (G g):=rfl
end
section
variable {P:Program} {xs ys:List FD} {ds es':List D} {id:Id} {k es s len f i off size n':Nat} {x:FD} {b c:Bool} {n m:Int} {kd kd':IntKind} {l l':List UInt8} {H:zau} {ti:TI} {agg:Bool} {p q:Prop} {caps:List D} {d e:D} {t u:TypeId} {op:BinOp} {lo hi:Option D}
@[go_sem] theorem zyD:zdw (.tmp k)=false:=rfl
@[go_sem] theorem zyC:zdw (.const (.int kd n))=false:=rfl
@[go_sem] theorem zB2:zdw (.const (.bool b))=false:=rfl
@[go_sem] theorem zB6 {a:ByteArray}:zdw (.const (.string a))=false:=rfl
@[go_sem] theorem zB4:zdw (.global k)=false:=rfl
@[go_sem] theorem zB3:zdw (.func k)=false:=rfl
@[go_sem] theorem zB5:zdw (.const (.slice none 0 0))=true:=rfl
@[go_sem] theorem zAA:zdw (.const .nilFunc)=false:=rfl
@[go_sem] theorem zAD:zsq (.ptr id k)=some (id,k):=rfl
@[go_sem] theorem zBZ:zwo (.fn f caps)=some (f,caps):=rfl
@[go_sem] theorem zAu:zme (.fz (.i kd n))=some n:=rfl
@[go_sem] theorem zys:zed P H t d=@obK _ _ (zas P t) ⟨fun ti=>zvD ti H d⟩:=zhf
@[go_sem] theorem zAv:zvD ti H (.rp xs)=some (if ti.agg then .fz (.agg (xs.take ti.size))else .fz (xs.getD 0 .nilf),ti.size≤xs.length∧(ti.agg=false→ti.size=1)):=rfl
@[go_sem] theorem zyz:zvD ti H (.ptr id k)=@obK _ _ (H id) ⟨fun o=>some (if ti.agg then .agg ((o.cells.drop k).take ti.size)else o.cells.getD k .junk,k+ti.size≤o.cells.length∧o.virt=false∧(ti.agg=false→ti.size=1))⟩:=rfl
@[go_sem] theorem zBS:zbw P t d i=@obK _ _ (zas P t) ⟨fun ti=>@obK _ _ (fieldsOf ti.und i) ⟨fun f=>@obK _ _ (zas P f.2) ⟨fun fi=>faD f.1 fi.size d⟩⟩⟩:=zh2
@[go_sem] theorem zyu {fs:List (Nat×TypeId)}:fieldsOf (.struct fs) i=fs[i]?:=rfl
@[go_sem] theorem zyt:faD off size (.ptr id k)=some (.ptr id (k+off),size≠0):=rfl
@[go_sem] theorem zAe:faD off size (.rp xs)=some (.rp (xs.drop off),size≠0):=rfl
@[go_sem] theorem zEi:zea P t d i=@obK _ _ (zas P t) ⟨fun ti=>@obK _ _ (fieldsOf ti.und i) ⟨fun f=>@obK _ _ (zas P f.2) ⟨fun fi=>fD f.1 fi.size fi.agg d⟩⟩⟩:=zn5
@[go_sem] theorem zAd:fD off size agg (.agg ds)=some (if agg then .agg ((ds.drop off).take size)else ds.getD off .junk,off+size≤ds.length∧(agg=false→size=1)):=rfl
@[go_sem] theorem zBX:fD off size agg (.fz (.agg xs))=some (if agg then .fz (.agg ((xs.drop off).take size))else .fz (xs.getD off .nilf),off+size≤xs.length∧(agg=false→size=1)):=rfl
@[go_sem] theorem zyr:zaw P t=@obK _ _ (zas P t) ⟨fun ti=>@obK _ _ (zpJ ti.und) ⟨fun e=>zas P e⟩⟩:=zpK
@[go_sem] theorem zyq:zpJ (.slice t)=some t:=rfl
@[go_sem] theorem zBT:zbx P t d e=@obK _ _ (zaw P t) ⟨fun te=>iaD te.size d e⟩:=zh4
@[go_sem] theorem zAt:iaD size (.fz (.sl xs)) (.fz (.i kd n))=some (.rp (xs.getD n.toNat .nilf).cells,0≤n∧n<xs.length∧(xs.getD n.toNat .nilf).cells.length=size):=rfl
@[go_sem] theorem zwU:iaD size (.full xs) (.fz (.i kd n))=some (.rp (xs.getD n.toNat .nilf).cells,0≤n∧n<xs.length∧(xs.getD n.toNat .nilf).cells.length=size):=rfl
@[go_sem] theorem zAs:iaD size (.ow id es xs) (.fz (.i kd n))=some (.rp (xs.getD n.toNat .nilf).cells,0≤n∧n<xs.length∧(xs.getD n.toNat .nilf).cells.length=size):=rfl
@[go_sem] theorem zyy:iaD size (.arr id es s len) (.fz (.i kd n))=some (.ptr id (s+n.toNat*es),0≤n∧n<len∧es=size):=rfl
@[go_sem] theorem zBU:zec P t (.fz (.s l)) (.fz (.i kd n))=@obK _ _ (zas P t) ⟨fun ti=>if ti.isStr then some (.fz (.i .u8 ((l.getD n.toNat 0).toNat:Int)),0≤n∧n<l.length)else none⟩:=zn8
@[go_sem] theorem zAc:zkv P t d=@obK _ _ (zas P t) ⟨fun ti=>zup ti.isStr ti.isSlice d⟩:=zrS
@[go_sem] theorem zAw:zup true c (.fz (.s l))=some (.fz (.i .i64 l.length),True):=rfl
@[go_sem] theorem zyB:zup b true (.fz (.sl xs))=some (.fz (.i .i64 xs.length),True):=rfl
@[go_sem] theorem zvq:zup b true (.full xs)=some (.fz (.i .i64 xs.length),True):=rfl
@[go_sem] theorem zyA:zup b true (.ow id es xs)=some (.fz (.i .i64 xs.length),True):=rfl
@[go_sem] theorem zwV:zup b true (.arr id es s len)=some (.fz (.i .i64 len),True):=rfl
@[go_sem] theorem zzW {ts:Array TypeId}:zaT P .len ts [d]=@obK _ _ ts[0]? ⟨fun t=>zkv P t d⟩:=zjf
@[go_sem] theorem zzX {ts:Array TypeId}:zaT P .max ts [.fz (.i kd n),.fz (.i kd' m)]=some (.fz (.i kd (max n m)),kd=kd'):=zjg
@[go_sem] theorem zzY {ts:Array TypeId}:zaT P .min ts [.fz (.i kd n),.fz (.i kd' m)]=some (.fz (.i kd (min n m)),kd=kd'):=zjh
@[go_sem] theorem zyR:zbn H ti (.fz (.sl xs))=some (xs.length,zag xs,zbi xs ti.size):=rfl
@[go_sem] theorem zvy:zbn H ti (.full xs)=some (xs.length,zag xs,zbi xs ti.size):=rfl
@[go_sem] theorem zyQ:zbn H ti (.ow id es xs)=some (xs.length,zag xs,zbi xs ti.size):=rfl
@[go_sem] theorem zAO:zaN P t (.ow id es xs) lo hi none=@obK _ _ (zaw P t) ⟨fun te=>@obK _ _ (zbs lo) ⟨fun a=>@obK _ _ (zaY xs.length hi) ⟨fun b=>some (.fz (.sl (zbD xs a b)),0≤a∧a≤b∧b≤xs.length∧(a=0∨a=b∨(xs.getD a.toNat .nilf).cells.length=te.size))⟩⟩⟩:=zob
@[go_sem] theorem zyN:zaN P t (.ow id es xs) lo (some d) (some (.fz (.i kd m)))=@obK _ _ (zaw P t) ⟨fun te=>@obK _ _ (zbs lo) ⟨fun a=>@obK _ _ (zaY xs.length (some d)) ⟨fun b=>some (.full (zbD xs a b),0≤a∧a≤b∧b≤xs.length∧m=b∧(a=0∨a=b∨(xs.getD a.toNat .nilf).cells.length=te.size))⟩⟩⟩:=zlZ
@[go_sem] theorem zyP:zaN P t (.fz (.s l)) lo hi none=@obK _ _ (zas P t) ⟨fun ti=>@obK _ _ (zbs lo) ⟨fun a=>@obK _ _ (zaY l.length hi) ⟨fun b=>if ti.isStr then some (.fz (.s ((l.take b.toNat).drop a.toNat)),0≤a∧a≤b∧b≤l.length)else none⟩⟩⟩:=zl1
@[go_sem] theorem zAP:zaN P t (.fz (.sl xs)) lo hi none=@obK _ _ (zaw P t) ⟨fun te=>@obK _ _ (zbs lo) ⟨fun a=>@obK _ _ (zaY xs.length hi) ⟨fun b=>some (.fz (.sl (zbD xs a b)),0≤a∧a≤b∧b≤xs.length∧(a=0∨a=b∨(xs.getD a.toNat .nilf).cells.length=te.size))⟩⟩⟩:=zoc
@[go_sem] theorem zyO:zaN P t (.fz (.sl xs)) lo (some d) (some (.fz (.i kd m)))=@obK _ _ (zaw P t) ⟨fun te=>@obK _ _ (zbs lo) ⟨fun a=>@obK _ _ (zaY xs.length (some d)) ⟨fun b=>some (.full (zbD xs a b),0≤a∧a≤b∧b≤xs.length∧m=b∧(a=0∨a=b∨(xs.getD a.toNat .nilf).cells.length=te.size))⟩⟩⟩:=zl0
@[go_sem] theorem zwZ:zaN P t (.full xs) lo none none=@obK _ _ (zaw P t) ⟨fun te=>@obK _ _ (zbs lo) ⟨fun a=>some (.full (zbD xs a xs.length),0≤a∧a≤xs.length∧(a=0∨a=xs.length∨(xs.getD a.toNat .nilf).cells.length=te.size))⟩⟩:=zkx
@[go_sem] theorem zvx:zaN P t (.full xs) lo (some d) none=@obK _ _ (zaw P t) ⟨fun te=>@obK _ _ (zbs lo) ⟨fun a=>@obK _ _ (zaY xs.length (some d)) ⟨fun b=>some (.fz (.sl (zbD xs a b)),0≤a∧a≤b∧b≤xs.length∧(a=0∨a=b∨(xs.getD a.toNat .nilf).cells.length=te.size))⟩⟩⟩:=zjj
@[go_sem] theorem zvw:zaN P t (.full xs) lo (some d) (some (.fz (.i kd m)))=@obK _ _ (zaw P t) ⟨fun te=>@obK _ _ (zbs lo) ⟨fun a=>@obK _ _ (zaY xs.length (some d)) ⟨fun b=>some (.full (zbD xs a b),0≤a∧a≤b∧b≤xs.length∧m=b∧(a=0∨a=b∨(xs.getD a.toNat .nilf).cells.length=te.size))⟩⟩⟩:=zji
@[go_sem] theorem zyM:zaN P t (.arr id es s len) lo hi none=@obK _ _ (zaw P t) ⟨fun te=>@obK _ _ (zbs lo) ⟨fun a=>@obK _ _ (zaY len hi) ⟨fun b=>some (.arr id es (s+a.toNat*es) (b-a).toNat,0≤a∧a≤b∧b≤len∧es=te.size)⟩⟩⟩:=zlY
@[go_sem] theorem zEm:zbs none=some 0:=rfl
@[go_sem] theorem zEn:zbs (some (.fz (.i kd n)))=some n:=rfl
@[go_sem] theorem zEk:zaY k none=some (k:Int):=rfl
@[go_sem] theorem zEl:zaY k (some (.fz (.i kd n)))=some n:=rfl
attribute [go_sem] zrL zrN
@[go_sem] theorem zyf:zcY P op t (.fz (.b b)) (.fz (.b c))=@obK _ _ (zas P t) ⟨fun ti=>if ti.isBool then znL op (b==c) True else none⟩:=zrI
@[go_sem] theorem zyh:zcY P op t (.fz (.agg xs)) (.fz (.agg ys))=@obK _ _ (zas P t) ⟨fun ti=>@obK _ _ (za7 ti.fund xs ys) ⟨fun rc=>if ti.eqok then znL op rc.1 rc.2 else none⟩⟩:=zrK
@[go_sem] theorem zye:zcY P op t (.agg ds) (.fz (.agg ys))=@obK _ _ (D.toFDs ds) ⟨fun xs=>@obK _ _ (zas P t) ⟨fun ti=>@obK _ _ (za7 ti.fund xs ys) ⟨fun rc=>if ti.eqok then znL op rc.1 rc.2 else none⟩⟩⟩:=zrH
@[go_sem] theorem zyg:zcY P op t (.fz (.agg xs)) (.agg ds)=@obK _ _ (D.toFDs ds) ⟨fun ys=>@obK _ _ (zas P t) ⟨fun ti=>@obK _ _ (za7 ti.fund xs ys) ⟨fun rc=>if ti.eqok then znL op rc.1 rc.2 else none⟩⟩⟩:=zrJ
@[go_sem] theorem zyd:zcY P op t (.agg ds) (.agg es')=@obK _ _ (D.toFDs ds) ⟨fun xs=>@obK _ _ (D.toFDs es') ⟨fun ys=>@obK _ _ (zas P t) ⟨fun ti=>@obK _ _ (za7 ti.fund xs ys) ⟨fun rc=>if ti.eqok then znL op rc.1 rc.2 else none⟩⟩⟩⟩:=zrG
@[go_sem] theorem zz5:znL .eql b p=some (.fz (.b b),p):=rfl
@[go_sem] theorem zz6:znL .neq b p=some (.fz (.b (!b)),p):=rfl
@[go_sem] theorem zAf:zda .add kd kd' n m=some (.fz (.i kd (n+m)),kd=kd'∧inK kd (n+m)):=rfl
@[go_sem] theorem zAr:zda .sub kd kd' n m=some (.fz (.i kd (n-m)),kd=kd'∧inK kd (n-m)):=rfl
@[go_sem] theorem zAm:zda .mul kd kd' n m=some (.fz (.i kd (n*m)),kd=kd'∧inK kd (n*m)):=rfl
@[go_sem] theorem zAo:zda .quo kd kd' n m=some (.fz (.i kd (n / m)),kd=kd'∧0≤n∧0<m):=rfl
@[go_sem] theorem zAp:zda .rem kd kd' n m=some (.fz (.i kd (n % m)),kd=kd'∧0≤n∧0<m):=rfl
@[go_sem] theorem zAh:zda .eql kd kd' n m=some (.fz (.b (decide (n=m))),kd=kd'):=by
 have:(n==m)=decide (n=m):=by by_cases h:n=m<;>simp[h]
 simp only[zda,this]
@[go_sem] theorem zAn:zda .neq kd kd' n m=some (.fz (.b (!decide (n=m))),kd=kd'):=by
 have:(n !=m)= !decide (n=m):=by by_cases h:n=m<;>simp[h]
 simp only[zda,this]
@[go_sem] theorem zAl:zda .lss kd kd' n m=some (.fz (.b (decide (n<m))),kd=kd'):=rfl
@[go_sem] theorem zAk:zda .leq kd kd' n m=some (.fz (.b (decide (n≤m))),kd=kd'):=rfl
@[go_sem] theorem zAj:zda .gtr kd kd' n m=some (.fz (.b (decide (m<n))),kd=kd'):=rfl
@[go_sem] theorem zAi:zda .geq kd kd' n m=some (.fz (.b (decide (m≤n))),kd=kd'):=rfl
@[go_sem] theorem zAq:zda .shr kd kd' n m=some (.fz (.i kd (n / 2^m.toNat)),0≤n∧0≤m∧m.toNat≤kd.bits):=rfl
@[go_sem] theorem zAF:zfS .add l l'=some (.fz (.s (l++l')),l.length+l'.length≤zbj):=rfl
@[go_sem] theorem zAK:zfS .lss l l'=some (.fz (.b (Op.bytesLess l l')),True):=rfl
@[go_sem] theorem zAJ:zfS .leq l l'=some (.fz (.b (Op.bytesLess l l'||l==l')),True):=rfl
@[go_sem] theorem zAI:zfS .gtr l l'=some (.fz (.b (!(Op.bytesLess l l'||l==l'))),True):=rfl
@[go_sem] theorem zAH:zfS .geq l l'=some (.fz (.b (!Op.bytesLess l l')),True):=rfl
@[go_sem] theorem zAG:zfS .eql l l'=some (.fz (.b (decide (l=l'))),True):=by
 have:(l==l')=decide (l=l'):=by by_cases h:l=l'<;>simp[h]
 simp only[zfS,this]
@[go_sem] theorem zAL:zfS .neq l l'=some (.fz (.b (!decide (l=l'))),True):=by
 have:(l==l')=decide (l=l'):=by by_cases h:l=l'<;>simp[h]
 simp only[zfS,this]
@[go_sem] theorem zBP:zeK .bool (.b b) (.b c)=some (b==c,True):=rfl
@[go_sem] theorem zBQ:zeK (.int kd) (.i kd n) (.i kd m)=some (decide (n=m),True):=by
 have:(n==m)=decide (n=m):=by by_cases h:n=m<;>simp[h]
 simp[zeK,this]
@[go_sem] theorem zBR:zeK .str (.s l) (.s l')=some (decide (l=l'),True):=by
 have:(l==l')=decide (l=l'):=by by_cases h:l=l'<;>simp[h]
 simp only[zeK,this]
@[go_sem] theorem zwS:za7 [] [] []=some (true,True):=rfl
@[go_sem] theorem zvl {v:Und}{vs:List Und}{y:FD}:za7 (v::vs) (x::xs) (y::ys)=@obK _ _ (zeK v x y) ⟨fun a=>@obK _ _ (za7 vs xs ys) ⟨fun b=>some (a.1&&b.1,a.2∧b.2)⟩⟩:=by
 simp only[za7];unfold obK ob;cases zeK v x y with
 |none=>rfl
 |some a=>simp only;cases za7 vs xs ys<;>rfl
@[go_sem] theorem zEp:ztN .not (.fz (.b b))=some (.fz (.b (!b)),True):=rfl
@[go_sem] theorem zEo:ztN .neg (.fz (.i kd n))=some (.fz (.i kd (-n)),inK kd (-n)):=rfl
@[go_sem] theorem zyL:zfh (.fz (.b true)) d e=some (d,True):=rfl
@[go_sem] theorem zyK:zfh (.fz (.b false)) d e=some (e,True):=rfl
@[go_sem] theorem zAB:zfh (.fz (.b b)) (.fz (.b true)) (.fz (.b c))=some (.fz (.b (b||c)),True):=by cases b<;>rfl
@[go_sem] theorem zAC:zfh (.fz (.b b)) (.fz (.b c)) (.fz (.b false))=some (.fz (.b (b&&c)),True):=by cases b<;>rfl
@[go_sem] theorem zEj:zcZ (.tup ds) i=@obK _ _ ds[i]? ⟨fun d=>some (d,True)⟩:=by simp only[zcZ];unfold obK ob;cases ds[i]?<;>rfl
@[go_sem] theorem zyG:zlX (.rp xs)=some (.rp xs,True):=rfl
@[go_sem] theorem zwW:zlX (.ptr id k)=some (.ptr id k,True):=rfl
@[go_sem] theorem zBN:zdd P t u (.fz (.i kd n))=@obK _ _ (zas P t) ⟨fun _=>@obK _ _ (zas P u) ⟨fun ti=>@obK _ _ ti.intK ⟨fun k=>some (.fz (.i k n),inK k n)⟩⟩⟩:=zrP
@[go_sem] theorem zBM:zdd P t u (.full [.i .u8 n])=@obK _ _ (zas P t) ⟨fun _=>@obK _ _ (zas P u) ⟨fun ti=>@obK _ _ (zaw P t) ⟨fun te=>@obK _ _ te.intK ⟨fun k=>if k= .u8 then(if ti.isStr then some (.fz (.s [UInt8.ofNat n.toNat]),True)else none)else none⟩⟩⟩⟩:=zrO
@[go_sem] theorem zBO:zdd P t u (.fz (.s l))=@obK _ _ (zas P t) ⟨fun si=>@obK _ _ (zas P u) ⟨fun ti=>if si.isStr&&ti.isStr then some (.fz (.s l),True)else none⟩⟩:=zrQ
@[go_sem] theorem zta {us:List Und}:TI.isStr ⟨k,n',ds,.bool,b,c,us⟩=false:=rfl
@[go_sem] theorem zrf {us:List Und}:TI.isSlice ⟨k,n',ds,.bool,b,c,us⟩=false:=rfl
@[go_sem] theorem zr9 {us:List Und}:TI.isBool ⟨k,n',ds,.bool,b,c,us⟩=true:=rfl
@[go_sem] theorem zui {us:List Und}:TI.isStr ⟨k,n',ds,.str,b,c,us⟩=true:=rfl
@[go_sem] theorem zsd {us:List Und}:TI.isSlice ⟨k,n',ds,.str,b,c,us⟩=false:=rfl
@[go_sem] theorem zs9 {us:List Und}:TI.isBool ⟨k,n',ds,.str,b,c,us⟩=false:=rfl
@[go_sem] theorem ztb {us:List Und}:TI.isStr ⟨k,n',ds,.func,b,c,us⟩=false:=rfl
@[go_sem] theorem zrg {us:List Und}:TI.isSlice ⟨k,n',ds,.func,b,c,us⟩=false:=rfl
@[go_sem] theorem zsa {us:List Und}:TI.isBool ⟨k,n',ds,.func,b,c,us⟩=false:=rfl
@[go_sem] theorem zuh {us:List Und}:TI.isStr ⟨k,n',ds,.ptr,b,c,us⟩=false:=rfl
@[go_sem] theorem zsc {us:List Und}:TI.isSlice ⟨k,n',ds,.ptr,b,c,us⟩=false:=rfl
@[go_sem] theorem zs8 {us:List Und}:TI.isBool ⟨k,n',ds,.ptr,b,c,us⟩=false:=rfl
@[go_sem] theorem zse {us:List Und}:TI.isStr ⟨k,n',ds,.other,b,c,us⟩=false:=rfl
@[go_sem] theorem zp9 {us:List Und}:TI.isSlice ⟨k,n',ds,.other,b,c,us⟩=false:=rfl
@[go_sem] theorem zre {us:List Und}:TI.isBool ⟨k,n',ds,.other,b,c,us⟩=false:=rfl
@[go_sem] theorem zsf {us:List Und}:TI.isStr ⟨k,n',ds,.slice t,b,c,us⟩=false:=rfl
@[go_sem] theorem zqa {us:List Und}:TI.isSlice ⟨k,n',ds,.slice t,b,c,us⟩=true:=rfl
@[go_sem] theorem zug {us:List Und}:TI.isStr ⟨k,n',ds,.int kd,b,c,us⟩=false:=rfl
@[go_sem] theorem zsb {us:List Und}:TI.isSlice ⟨k,n',ds,.int kd,b,c,us⟩=false:=rfl
@[go_sem] theorem zrh {us:List Und}{fs:List (Nat×TypeId)}:TI.isStr ⟨k,n',ds,.struct fs,b,c,us⟩=false:=rfl
@[go_sem] theorem zoS {us:List Und}{fs:List (Nat×TypeId)}:TI.isSlice ⟨k,n',ds,.struct fs,b,c,us⟩=false:=rfl
@[go_sem] theorem zB1 {us:List Und}:TI.intK ⟨k,n',ds,.int kd,b,c,us⟩=some kd:=rfl
attribute [go_sem] zn7
@[go_sem] theorem zBY {fs:List (Nat×TypeId)}{rest:List (Nat×D)}:zc0 P fs ds ((i,d)::rest)=@obK _ _ fs[i]? ⟨fun f=>@obK _ _ (zas P f.2) ⟨fun fi=>@obK _ _ (zc0 P fs (zdA ds f.1 d.cs) rest) ⟨fun r=>some (r.1,(d.cs.length=fi.size∧f.1+fi.size≤ds.length)∧r.2)⟩⟩⟩:=zlW
@[go_sem] theorem zzZ {ps:List (Nat×D)}:zd9 P t ps=@obK _ _ (zas P t) ⟨fun ti=>@obK _ _ (zgP ti.und) ⟨fun fs=>if fs.all (fun p=>(zas P p.2).isSome)then(@obK _ _ (zc0 P fs ti.zero ps) ⟨fun r=>some (.agg r.1,r.2)⟩)else none⟩⟩:=zn3
@[go_sem] theorem zvA {fs:List (Nat×TypeId)}:zgP (.struct fs)=some fs:=rfl
@[go_sem] theorem zCk:zsO n' d=(d.known&&d.cs.length==n'):=rfl
attribute [go_sem] List.flatMap_cons List.flatMap_nil
@[go_sem] theorem zvn:D.known (.fz x)=true:=rfl
@[go_sem] theorem ztc:D.known (.full xs)=true:=rfl
@[go_sem] theorem zwR:D.cs (.full xs)=[.full xs]:=rfl
@[go_sem] theorem zvp:D.known (.rp xs)=true:=rfl
@[go_sem] theorem zAb:D.cs (.rp xs)=[.rp xs]:=rfl
@[go_sem] theorem zul:D.known (.ptr id k)=true:=rfl
@[go_sem] theorem zyo:D.cs (.ptr id k)=[.ptr id k]:=rfl
@[go_sem] theorem zuk:D.known (.arr id es s len)=true:=rfl
@[go_sem] theorem zyn:D.cs (.arr id es s len)=[.arr id es s len]:=rfl
@[go_sem] theorem zvo:D.known (.ow id es xs)=true:=rfl
@[go_sem] theorem zAa:D.cs (.ow id es xs)=[.ow id es xs]:=rfl
@[go_sem] theorem zyI:zcm (.ow id es xs)=true:=rfl
@[go_sem] theorem zAN:zqG (.ow id es xs)=some xs:=rfl
@[go_sem] theorem zvm:D.known (.fn f caps)=true:=rfl
@[go_sem] theorem zz8:D.cs (.fn f caps)=[.fn f caps]:=rfl
@[go_sem] theorem zuj:D.known (.agg ds)=true:=rfl
@[go_sem] theorem zum:D.known (.tup ds)=true:=rfl
@[go_sem] theorem zyp:D.cs (.tup ds)=[.tup ds]:=rfl
@[go_sem] theorem ztd:D.known .junk=false:=rfl
@[go_sem] theorem zym:D.cs (.agg ds)=ds:=rfl
@[go_sem] theorem zz9:D.cs (.fz x)=x.cells.map .fz:=rfl
@[go_sem] theorem zwO:FD.cells (.b b)=[.b b]:=rfl
@[go_sem] theorem zvs:zcm (.fz (.b b))=true:=rfl
@[go_sem] theorem zwP:FD.cells (.i kd n)=[.i kd n]:=rfl
@[go_sem] theorem zvt:zcm (.fz (.i kd n))=true:=rfl
@[go_sem] theorem zwQ:FD.cells (.s l)=[.s l]:=rfl
@[go_sem] theorem zvu:zcm (.fz (.s l))=true:=rfl
@[go_sem] theorem zvk:FD.cells (.sl xs)=[.sl xs]:=rfl
@[go_sem] theorem zun:zcm (.fz (.sl xs))=true:=rfl
@[go_sem] theorem zue:FD.cells (.agg xs)=xs:=rfl
@[go_sem] theorem zte:zcm (.fz (.agg xs))=false:=rfl
@[go_sem] theorem zs7:FD.cells .nilf=[.nilf]:=rfl
@[go_sem] theorem zvv:zcm (.fz .nilf)=true:=rfl
@[go_sem] theorem zvr:zcm (.full xs)=true:=rfl
@[go_sem] theorem zyJ:zcm (.rp xs)=true:=rfl
@[go_sem] theorem zwY:zcm (.ptr id k)=true:=rfl
@[go_sem] theorem zwX:zcm (.arr id es s len)=true:=rfl
@[go_sem] theorem zyH:zcm (.fn f caps)=true:=rfl
@[go_sem] theorem zyv:zkC (.full xs)=some xs:=rfl
@[go_sem] theorem zCg:zqG (.fz (.sl xs))=some xs:=rfl
@[go_sem] theorem zAM:zqG (.full xs)=some xs:=rfl
@[go_sem] theorem zBW {is:List Nat}:zbY P t k is ds=@obK _ _ (zaw P t) ⟨fun te=>@obK _ _ (D.toFDs ds) ⟨fun xs=>some (.full xs,is=List.range k∧zbi xs te.size∧k*te.size≤2^24∧k≤zbj)⟩⟩:=by
 unfold zbY obK ob
 cases zaw P t with
 |none=>rfl
 |some te=>simp only;cases D.toFDs ds<;>rfl
@[go_sem] theorem zBV:zex P t u d e=@obK _ _ (zaw P t) ⟨fun te=>@obK _ _ (zas P u) ⟨fun ui=>@obK _ _ (zkC d) ⟨fun xs=>@obK _ _ (zqG e) ⟨fun ys=>if ui.isSlice then some (.fz (.sl (xs++ys)),zbi xs te.size∧zbi ys te.size∧fits (xs.length+ys.length) te.bytes)else none⟩⟩⟩⟩:=by
 unfold zex obK ob
 cases zaw P t with
 |none=>rfl
 |some te=>
  cases zas P u with
  |none=>rfl
  |some ui=>cases zkC d with
   |none=>rfl
   |some xs=>cases zqG e<;>rfl
end
theorem zak {P:Program}{G:Nat→List FD}{T:Tbl}(hm:P.follows .mixedOrders=true)(hT:zam P G T){f:FuncId}{fn:Func}{c:Code}{args:List D}{H:zau}{n:Nat}{R:D→zau→Nat→Prop}(tag0:Nat)(am:Nat→Bool)(hcall:zat P f)(hf:P.funcs[f]?=some fn)(hb:fn.body=some c){N:Nat}(hN:fn.ntmps=N)(hl:args.length≤N)
  (hd:zcz am T c=true)(h:@XCK P G T N tag0 am c ⟨frL (zg1 0 args),H,n⟩ ⟨fun e st=>@zuT P fn e st ⟨R⟩⟩):zaE P G f args H n R:=
 ztt hm hT tag0 am hcall hf hb hN hl hd h
def lst:List Nat→Nat→Bool
 |[],_=>false
 |a::l,t=>t==a||lst l t
attribute [go_sem] lst
def hpL:List (Id×Option O)→zau
 |[],_=>none
 |(i,o)::l,j=>if j=i then o else hpL l j
@[go_sem] theorem zyx {l:List (Id×Option O)}{i:Id}{o:Option O}:zaK (hpL l) i o=hpL ((i,o)::l):=by
 funext j;simp only[zaK,hpL]
@[go_sem] theorem zwT {l:List (Id×Option O)}{i j:Id}{o:Option O}:hpL ((i,o)::l) j=if j=i then o else hpL l j:=rfl
@[go_sem] theorem zyw {j:Id}:hpL [] j=none:=rfl
theorem zfN:H0=hpL []:=by funext j;rfl
def zoN (fr:Nat→D):List (Nat×D)→Prop
 |[]=>True
 |(k,d)::l=>fr k=d∧zoN fr l
def zfO (H:zau):List (Id×Option O)→Prop
 |[]=>True
 |(i,o)::l=>H i=o∧zfO H l
theorem zoN.get {fr:Nat→D}:∀{l:List (Nat×D)},zoN fr l→∀t,frL l t=fr t∨frL l t= .junk
 |[],_,_=> .inr rfl
 |(k,d)::l,h,t=>by
  simp only[frL]
  split
  ·rename_i e;subst e;exact .inl h.1.symm
  ·exact zoN.get h.2 t
theorem zfO.get {H:zau}:∀{l:List (Id×Option O)},zfO H l→∀id o,hpL l id=some o→H id=some o
 |[],_,_,_,h=>by cases h
 |(i,o')::l,h,id,o,e=>by
  simp only[hpL]at e
  split at e
  ·rename_i e';subst e';rw[h.1];exact e
  ·exact zfO.get h.2 id o e
theorem zai {G:Nat→List FD}{N:Nat}{st:St}{l:List (Nat×D)}{hl:List (Id×Option O)}{n:Nat}(hf:zoN st.fr l)(hh:zfO st.H hl)(hn:st.n≤n):zeu G N st ⟨frL l,hpL hl,n⟩:=by
 intro a w L F h
 have hu:∀id,Ub st.n id→Ub n id:=fun id hid=>Nat.lt_of_lt_of_le hid hn
 have e:Ext w L F (Ub st.n) w L F (Ub n):=⟨hu,fun _ _=>rfl,fun _ _ h=>h,fun _ _ _=>rfl,Nat.le_refl _,fun b cs T fr _ h=>⟨cs,T,fr,h,Nat.le_refl _⟩⟩
 refine⟨L,F,⟨⟨h.ok.fb,fun id o ho=>?_,fun id id' o o' h1 h2=>h.ok.inj id id' o o' (hh.get _ _ h1) (hh.get _ _ h2),h.ok.glob⟩,h.size,fun t=>?_,h.nd⟩,hu,fun _ _=>rfl,fun _ _ h=>h,Nat.le_refl _,fun _ _ _=>rfl,fun _ _ _ _=>rfl,
  fun b cs T fr _ h=>⟨cs,T,fr,h,Nat.le_refl _⟩,fun _ _ h=> .inl h,fun b k hb=> .inr ?_,rfl,rfl,rfl,Nat.le_refl _⟩
 ·obtain⟨h1,h2⟩:=h.ok.live id o (hh.get _ _ ho)
  exact⟨hu _ h1,h2.ext e h1 fun hv=>⟨rfl,(zaC h2 hv).1⟩⟩
 ·rcases hf.get t with h1|h1
  ·simp only;rw[h1];exact(h.fr t).ext e
  ·simp only;rw[h1];simp[zaj]
 ·obtain⟨id,o,h1,h2,h3⟩:=hb
  exact⟨id,o,hh.get _ _ h1,h2,h3⟩
def lsw (ows own:List Nat)(t:Nat):Bool:=lst ows t||lst own t||lst (ows.map (2000000+·)) t
attribute [go_sem] lsw tok
class Ki (ι:Type) where
 st:ι→St
 mu:ι→Nat
def zmh (G:Nat→List FD)(N:Nat){ι:Type}[I:Ki ι](i:ι)(e:Exit)(st:St)[q:Ke]:Prop:=zxn G N I.st I.mu i q.run e st
def zzj (G:Nat→List FD)(N:Nat){ι:Type}[I:Ki ι](i:ι)(st:St):Prop:=∃i',I.mu i'<I.mu i∧zeu G N st (I.st i')
section
variable {P:Program} {G:Nat→List FD} {T:Tbl} {N tag0:Nat} {am:Nat→Bool} {st:St} {ι:Type} {I:Ki ι} {i:ι} {q:Exit→St→Prop} {j:Nat}
@[go_sem] theorem zAy:@zmh G N ι I i .normal st ⟨q⟩=@zzj G N ι I i st:=(rfl)
@[go_sem] theorem zAx:@zmh G N ι I i (.exit j) st ⟨q⟩=q (.exit j) st:=(rfl)
@[go_sem] theorem zAz:@zmh G N ι I i .ret st ⟨q⟩=q .ret st:=(rfl)
theorem zap (hm:P.follows .mixedOrders=true)(hT:zam P G T)(tag0:Nat)(am:Nat→Bool){c:Code}(I:Ki ι)(i:ι)(hd:zcz am T c=true)(h0:zeu G N st (I.st i))
  (round:∀i,@XCK P G T N tag0 am c (I.st i) ⟨fun e st=>@zmh G N ι I i e st ⟨q⟩⟩):@WK P G N (.loop c) st ⟨q⟩:=
 zvV I.st I.mu i h0 fun i=>zlG hm hT c _ _ hd (round i)
end
theorem zaF.i {P:Program}{G:Nat→List FD}{f:FuncId}{args:List D}{H:zau}{n:Nat}{R:D→zau→Nat→Prop}(h:zaE P G f args H n R):@zaF P G f args H n ⟨R⟩:=h
theorem WK.i {P:Program}{G:Nat→List FD}{N:Nat}{c:Code}{st:St}{q:Exit→St→Prop}(h:W P G N c q st):@WK P G N c st ⟨q⟩:=h
attribute [irreducible] BiK obK zaG zgT zaX VvK XOK zi0 zib zgX zgY znC ze7 zhQ XCK znO ztj ze8 zuT zaF WK zmh
end Go.Abs
namespace Go.Abs
open Go
inductive FD.Wf:FD→Prop
 |b (x):Wf (.b x)
 |i (k n):k.min≤n→n≤k.max→Wf (.i k n)
 |s (x):x.length≤zbj→Wf (.s x)
 |sl (xs):xs.length≤zbj→(∀x∈xs,Wf x)→Wf (.sl xs)
 |agg (xs):(∀x∈xs,Wf x)→Wf (.agg xs)
 |nilf:Wf .nilf
theorem zbf.wf {w:World}{F:Nat→Nat→Prop}{v:Value}{x:FD}(h:zbf w F v x):x.Wf:=by
 induction h with
 |b x=>exact .b x
 |i k n h1 h2=>exact .i k n h1 h2
 |s x h=>
  refine .s _ ?_
  have hs:x.size=x.data.toList.length:=by rw[Array.length_toList];rfl
  rw[←hs];exact h
 |nilf=>exact .nilf
 |sl0 a cap=>exact .sl [] (by simp) (by simp)
 |sl b off cap es xs vs h1 h2 h3 h5 h6 h7 ih=>
  refine .sl xs h2 fun x hx=>?_
  obtain⟨i,hi,rfl⟩:=List.getElem_of_mem hx
  have hc:=h5 i hi
  have e:xs.getD i .nilf=xs[i]:=by simp[List.getD_eq_getElem?_getD,hi]
  rw[e]at hc
  have key:∀j,j<es→(xs[i].cells.getD j .nilf).Wf:=fun j hj=>by have:=ih i j hi hj;rwa [e]at this
  generalize xs[i]=y at*
  cases y with
  |agg ys=>
   refine .agg ys fun z hz=>?_
   obtain⟨j,hj,rfl⟩:=List.getElem_of_mem hz
   have:=key j (by rw[←hc];exact hj)
   simpa[FD.cells,List.getD_eq_getElem?_getD,hj]using this
  |_=>exact key 0 (by rw[←hc];simp[FD.cells])
 |agg vs xs h1 h2 ih=>
  refine .agg xs fun x hx=>?_
  obtain⟨i,hi,rfl⟩:=List.getElem_of_mem hx
  have:=ih i hi
  simpa[List.getD_eq_getElem?_getD,hi]using this
theorem zet {P:Program}{G:Nat→List FD}{f:FuncId}{xs:List FD}{H:zau}{n:Nat}{Q:D→zau→Nat→Prop}(hc:zat P f)(h:(∀x∈xs,x.Wf)→zaE P G f (xs.map .fz) H n Q):zaE P G f (xs.map .fz) H n Q:=by
 refine⟨hc,fun w L F vs hok hvs=>(h ?_).2 w L F vs hok hvs⟩
 intro x hx
 obtain⟨i,hi,rfl⟩:=List.getElem_of_mem hx
 have:=((zaq.iff _ _).1 hvs).2 i (by simpa using hi)
 rw[zbT _ _ hi]at this
 simp only[zaj]at this
 have e:xs.getD i .nilf=xs[i]:=by simp[List.getD_eq_getElem?_getD,hi]
 rw[e]at this
 exact this.wf
theorem zdq {xs:List FD}(h:(FD.sl xs).Wf):xs.length≤zbj:=by cases h;assumption
theorem zjX {xs:List FD}(h:(FD.sl xs).Wf):∀x∈xs,x.Wf:=by cases h;assumption
theorem zbM {xs:List FD}(h:(FD.agg xs).Wf):∀x∈xs,x.Wf:=by cases h;assumption
theorem zBl {l:List UInt8}(h:(FD.s l).Wf):l.length≤zbj:=by cases h;assumption
theorem zoq {n:Nat}:(0≤(n:Int))=True:=by simp
attribute [go_sem] zoq Int.toNat_natCast Int.ofNat_lt Int.ofNat_le Nat.zero_add Nat.add_zero Nat.mul_one Nat.one_mul Nat.zero_mul Nat.mul_zero Nat.zero_le Nat.le_refl List.length_map Int.natCast_inj
theorem zaa {α:Type}{f:α→FD}{l:List α}{i:Nat}(h:i<l.length):(l.map f).getD i .nilf=f l[i]:=by
 simp[List.getD_eq_getElem?_getD,h]
@[go_sem] theorem zDq:((0:Nat):Int)=0:=rfl
@[go_sem] theorem zDr {n:Nat}:((n+1:Nat):Int)=(n:Int)+1:=rfl
@[go_sem] theorem zzO {n:Nat}:inK .i64 (n:Int)=(n≤9223372036854775807):=by
 simp only[inK,zmc,zmb,eq_iff_iff];omega
@[go_sem] theorem zyb {n:Nat}:inK .i64 ((n:Int)+1)=(n+1≤9223372036854775807):=by
 simp only[inK,zmc,zmb,eq_iff_iff];omega
theorem zrm {fr:Nat→D}:zoN fr []=True:=rfl
theorem zoZ {fr:Nat→D}{k:Nat}{d:D}{l:List (Nat×D)}:zoN fr ((k,d)::l)=(fr k=d∧zoN fr l):=rfl
theorem zrn {H:zau}:zfO H []=True:=rfl
theorem zo0 {H:zau}{i:Id}{o:Option O}{l:List (Id×Option O)}:zfO H ((i,o)::l)=(H i=o∧zfO H l):=rfl
attribute [go_sem] zrm zoZ zrn zo0 D.fz.injEq FD.i.injEq FD.b.injEq FD.sl.injEq FD.s.injEq
end Go.Abs
namespace Go.Abs
open Go
structure Str where
 l:List UInt8
 deriving DecidableEq,Inhabited
@[go_sem] theorem zBb {a b:Str}:(a.l=b.l)=(a=b):=by
 cases a;cases b;simp
class Enc (α:Type) where
 enc:α→FD
 dec:FD→α
 dec_enc:∀a,dec (enc a)=a
def enc {α:Type}[Enc α](a:α):FD:=Enc.enc a
def dec {α:Type}[Enc α](x:FD):α:=Enc.dec x
@[go_sem] theorem dec_enc {α:Type}[Enc α](a:α):dec (enc a)=a:=Enc.dec_enc a
instance:Enc Bool:=⟨.b,fun| .b x=>x|_=>false,fun _=>rfl⟩
instance:Enc Int:=⟨.i .i64,fun| .i _ n=>n|_=>0,fun _=>rfl⟩
instance:Enc Str:=⟨fun s=> .s s.l,fun| .s l=>⟨l⟩|_=>⟨[]⟩,fun _=>rfl⟩
instance {α:Type}[Enc α]:Enc (List α):=⟨fun l=> .sl (l.map enc),fun| .sl xs=>xs.map dec|_=>[],fun a=>by
 simp only[List.map_map]
 rw[show(dec∘enc:α→α)=id from funext fun a=>dec_enc a]
 simp⟩
@[go_sem] theorem zrE {b:Bool}:enc b= .b b:=rfl
@[go_sem] theorem zzH {n:Int}:enc n= .i .i64 n:=rfl
@[go_sem] theorem zpO {s:Str}:enc s= .s s.l:=rfl
@[go_sem] theorem zx7 {α:Type}[Enc α]{l:List α}:enc l= .sl (l.map enc):=rfl
@[go_sem] theorem zx2 {b:Bool}:dec (.b b)=b:=rfl
@[go_sem] theorem zzD {n:Int}{k:IntKind}:dec (.i k n)=n:=rfl
@[go_sem] theorem zBu {α:Type}[Enc α]{l:List α}:dec (.sl (l.map enc))=l:=dec_enc l
@[go_sem] theorem zDv {l:List UInt8}:dec (α:=Str) (.s l)=⟨l⟩:=rfl
@[go_sem] theorem zu2 {α:Type}[Enc α]{xs ys:List FD}:dec (α:=List α) (.sl (xs++ys))=dec (.sl xs)++dec (.sl ys):=List.map_append
@[go_sem] theorem ztH {α:Type}[Enc α]{x:FD}{xs:List FD}:dec (α:=List α) (.sl (x::xs))=dec x::dec (.sl xs):=rfl
@[go_sem] theorem zu3 {α:Type}[Enc α]:dec (α:=List α) (.sl [])=[]:=rfl
def ztp:Tbl:=fun _=>none
def Tbl.add (T:Tbl)(f:FuncId)(t:List FD→Option (D×Prop)):Tbl:=fun g=>if g=f then some t else T g
@[go_sem] theorem zzq {T:Tbl}{f g:FuncId}{t:List FD→Option (D×Prop)}:T.add f t g=if g=f then some t else T g:=rfl
@[go_sem] theorem zDp {g:FuncId}:ztp g=none:=rfl
section
variable {P:Program} {G:Nat→List FD} {T:Tbl}
theorem zdJ:zam P G ztp:=fun _ _ _ _ _ h=>by cases h
theorem zcU {f:FuncId}{t:List FD→Option (D×Prop)}(hT:zam P G T)(h:∀xs r c,t xs=some (r,c)→c→zaE P G f (xs.map .fz) H0 0 (fun d _ _=>D.val d=some r)):zam P G (T.add f t):=by
 intro g t' xs r c ht hx hc
 simp only[Tbl.add]at ht
 split at ht
 ·rename_i e;subst e;obtain rfl:=Option.some.inj ht;exact h _ _ _ hx hc
 ·exact hT _ _ _ _ _ ht hx hc
def sp1 {α ρ:Type}[Enc α][Enc ρ](f:α→ρ)(pre:α→Prop):List FD→Option (D×Prop)
 |[x]=>some (.fz (enc (f (dec x))),x=enc (dec (α:=α) x)∧pre (dec x))
 |_=>none
def sp2 {α β ρ:Type}[Enc α][Enc β][Enc ρ](f:α→β→ρ)(pre:α→β→Prop):List FD→Option (D×Prop)
 |[x,y]=>some (.fz (enc (f (dec x) (dec y))),x=enc (dec (α:=α) x)∧y=enc (dec (α:=β) y)∧pre (dec x) (dec y))
 |_=>none
def sp3 {α β γ ρ:Type}[Enc α][Enc β][Enc γ][Enc ρ](f:α→β→γ→ρ)(pre:α→β→γ→Prop):List FD→Option (D×Prop)
 |[x,y,z]=>some (.fz (enc (f (dec x) (dec y) (dec z))),x=enc (dec (α:=α) x)∧y=enc (dec (α:=β) y)∧z=enc (dec (α:=γ) z)∧pre (dec x) (dec y) (dec z))
 |_=>none
@[go_sem] theorem zAQ {α ρ:Type}[Enc α][Enc ρ]{f:α→ρ}{pre:α→Prop}{x:FD}:sp1 f pre [x]=some (.fz (enc (f (dec x))),x=enc (dec (α:=α) x)∧pre (dec x)):=rfl
@[go_sem] theorem zw1 {α β ρ:Type}[Enc α][Enc β][Enc ρ]{f:α→β→ρ}{pre:α→β→Prop}{x y:FD}:sp2 f pre [x,y]=some (.fz (enc (f (dec x) (dec y))),x=enc (dec (α:=α) x)∧y=enc (dec (α:=β) y)∧pre (dec x) (dec y)):=rfl
@[go_sem] theorem zw2 {α β γ ρ:Type}[Enc α][Enc β][Enc γ][Enc ρ]{f:α→β→γ→ρ}{pre:α→β→γ→Prop}{x y z:FD}:sp3 f pre [x,y,z]=some (.fz (enc (f (dec x) (dec y) (dec z))),x=enc (dec (α:=α) x)∧y=enc (dec (α:=β) y)∧z=enc (dec (α:=γ) z)∧pre (dec x) (dec y) (dec z)):=rfl
theorem zcu {α ρ:Type}[Enc α][Enc ρ]{f:FuncId}{g:α→ρ}{pre:α→Prop}(hc:zat P f)(hT:zam P G T)
  (h:∀a,pre a→(enc a).Wf→zaE P G f [.fz (enc a)] (hpL []) 0 (fun d _ _=>D.val d=some (.fz (enc (g a))))):zam P G (T.add f (sp1 g pre)):=by
 refine zcU hT fun xs r c hx hcc=>?_
 unfold sp1 at hx
 split at hx
 ·rename_i x
  simp only[Option.some.injEq,Prod.mk.injEq]at hx
  obtain⟨rfl,rfl⟩:=hx
  obtain⟨e,hp⟩:=hcc
  refine zet hc fun hw=>?_
  rw[zfN]
  have:=h (dec x) hp (by rw[←e];exact hw x (by simp))
  rw[←e]at this
  exact this
 ·cases hx
theorem zc7 {α β ρ:Type}[Enc α][Enc β][Enc ρ]{f:FuncId}{g:α→β→ρ}{pre:α→β→Prop}(hc:zat P f)(hT:zam P G T)
  (h:∀a b,pre a b→(enc a).Wf→(enc b).Wf→zaE P G f [.fz (enc a),.fz (enc b)] (hpL []) 0 (fun d _ _=>D.val d=some (.fz (enc (g a b))))):zam P G (T.add f (sp2 g pre)):=by
 refine zcU hT fun xs r c hx hcc=>?_
 unfold sp2 at hx
 split at hx
 ·rename_i x y
  simp only[Option.some.injEq,Prod.mk.injEq]at hx
  obtain⟨rfl,rfl⟩:=hx
  obtain⟨e,e2,hp⟩:=hcc
  refine zet hc fun hw=>?_
  rw[zfN]
  have:=h (dec x) (dec y) hp (by rw[←e];exact hw x (by simp)) (by rw[←e2];exact hw y (by simp))
  rw[←e,←e2]at this
  exact this
 ·cases hx
theorem zfA {α β γ ρ:Type}[Enc α][Enc β][Enc γ][Enc ρ]{f:FuncId}{g:α→β→γ→ρ}{pre:α→β→γ→Prop}(hc:zat P f)(hT:zam P G T)
  (h:∀a b c,pre a b c→(enc a).Wf→(enc b).Wf→(enc c).Wf→zaE P G f [.fz (enc a),.fz (enc b),.fz (enc c)] (hpL []) 0 (fun d _ _=>D.val d=some (.fz (enc (g a b c))))):zam P G (T.add f (sp3 g pre)):=by
 refine zcU hT fun xs r c hx hcc=>?_
 unfold sp3 at hx
 split at hx
 ·rename_i x y z
  simp only[Option.some.injEq,Prod.mk.injEq]at hx
  obtain⟨rfl,rfl⟩:=hx
  obtain⟨e,e2,e3,hp⟩:=hcc
  refine zet hc fun hw=>?_
  rw[zfN]
  have:=h (dec x) (dec y) (dec z) hp (by rw[←e];exact hw x (by simp)) (by rw[←e2];exact hw y (by simp)) (by rw[←e3];exact hw z (by simp))
  rw[←e,←e2,←e3]at this
  exact this
 ·cases hx
@[go_sem] theorem zxP {x:FD}:D.val (.fz x)=some (.fz x):=rfl
@[go_sem] theorem zxQ {id:Id}{es:Nat}{xs:List FD}:D.val (.ow id es xs)=some (.fz (.sl xs)):=rfl
@[go_sem] theorem zsM {xs:List FD}:D.val (.full xs)=some (.fz (.sl xs)):=rfl
@[go_sem] theorem zBg {ds:List D}:D.val (.tup ds)=(D.toFDs ds).map fun xs=> .tup (xs.map .fz):=rfl
end
end Go.Abs
namespace Go.Abs
open Go
def zsP (len:Nat)[k:Kn Bool]:Prop:=∀b,(b=true→len=0)→k.run b
theorem zsP.i {len:Nat}{k:Bool→Prop}(h:∀b,(b=true→len=0)→k b):@zsP len ⟨k⟩:=h
section
variable {P:Program} {N:Nat} {t:TypeId} {x:D} {st:St} {dst:Option Tmp} {k:St→Prop}
theorem zgb {op:BinOp}:@zi0 P N op t x st dst ⟨k⟩=zuU P N op t x st dst k:=by unfold zi0;rfl
@[go_sem] theorem zyE:@zi0 P N .eql t x st dst ⟨k⟩=@BiK _ (zaw P t) ⟨fun _=>@BiK _ (zdY x) ⟨fun len=>@zgT (za2 N dst) ⟨@zsP len ⟨fun b=>k (st.put dst (.fz (.b b)))⟩⟩⟩⟩:=by
 rw[zgb]
 unfold zuU BiK Bi zgT Chk zsP
 cases zaw P t with
 |none=>rfl
 |some te=>cases zdY x<;>rfl
@[go_sem] theorem zyF:@zi0 P N .neq t x st dst ⟨k⟩=@BiK _ (zaw P t) ⟨fun _=>@BiK _ (zdY x) ⟨fun len=>@zgT (za2 N dst) ⟨@zsP len ⟨fun b=>k (st.put dst (.fz (.b (!b))))⟩⟩⟩⟩:=by
 rw[zgb]
 unfold zuU BiK Bi zgT Chk zsP
 cases zaw P t with
 |none=>rfl
 |some te=>
  cases zdY x with
  |none=>rfl
  |some len=>
   simp only[eq_iff_iff,and_congr_right_iff]
   intro _
   exact⟨fun h b hb=>h (!b) (by simpa using hb),fun h b hb=>by have:=h (!b) (by simpa using hb);simpa using this⟩
@[go_sem] theorem zEy {xs:List FD}:zdY (.fz (.sl xs))=some xs.length:=rfl
@[go_sem] theorem zAX {xs:List FD}:zdY (.full xs)=some xs.length:=rfl
@[go_sem] theorem zEx {id:Id}{es:Nat}{xs:List FD}:zdY (.ow id es xs)=some xs.length:=rfl
@[go_sem] theorem zCt {id:Id}{es s len:Nat}:zdY (.arr id es s len)=some len:=rfl
end
attribute [irreducible] zsP
theorem zbR {α:Type}{f:α→FD}{k:Nat}(h:∀a,(f a).cells.length=k)(l:List α):zbi (l.map f) k:=by
 intro x hx
 obtain⟨a,_,rfl⟩:=List.mem_map.1 hx
 exact h a
@[go_sem] theorem zxl {l:List Str}:zbi (l.map enc) 1=True:=eq_true (zbR (f:=enc) (k:=1) (fun _=>rfl) l)
@[go_sem] theorem zvJ {α:Type}[Enc α]{l:List (List α)}:zbi (l.map enc) 1=True:=eq_true (zbR (f:=enc) (k:=1) (fun _=>rfl) l)
@[go_sem] theorem zxi {l:List Int}:zbi (l.map enc) 1=True:=eq_true (zbR (f:=enc) (k:=1) (fun _=>rfl) l)
@[go_sem] theorem zvF {l:List Bool}:zbi (l.map enc) 1=True:=eq_true (zbR (f:=enc) (k:=1) (fun _=>rfl) l)
@[go_sem] theorem zy2 {k:Nat}:zbi [] k=True:=by simp[zbi]
@[go_sem] theorem zxh {x:FD}{xs:List FD}{k:Nat}:zbi (x::xs) k=(x.cells.length=k∧zbi xs k):=by simp[zbi]
@[go_sem] theorem zy1 {xs ys:List FD}{k:Nat}:zbi (xs++ys) k=(zbi xs k∧zbi ys k):=by
 simp only[zbi,List.mem_append,eq_iff_iff]
 exact⟨fun h=>⟨fun x hx=>h x (.inl hx),fun x hx=>h x (.inr hx)⟩,fun h x hx=>hx.elim (h.1 x) (h.2 x)⟩
theorem zeW (k:Nat):∀(ds cells:List D) (j:Nat),(ds.zipIdx j).foldl (fun cs p=>cs.set (k+p.2) p.1) cells=(ds.zipIdx 0).foldl (fun cs p=>cs.set (k+j+p.2) p.1) cells
 |[],_,_=>rfl
 |d::ds,cells,j=>by
  simp only[List.zipIdx_cons,List.foldl_cons,Nat.add_zero,Nat.zero_add]
  rw[zeW k ds _ (j+1),show(fun(cs:List D) (p:D×Nat)=>cs.set (k+j+p.2) p.1)=fun cs p=>cs.set ((k+j)+p.2) p.1 from rfl,zeW (k+j) ds _ 1]
  rfl
@[go_sem] theorem zvO {cells:List D}{k:Nat}{d:D}{ds:List D}:zdA cells k (d::ds)=zdA (cells.set k d) (k+1) ds:=by
 unfold zdA
 simp only[List.zipIdx_cons,List.foldl_cons,Nat.add_zero,Nat.zero_add]
 rw[zeW k ds _ 1]
@[go_sem] theorem zxD {cells:List D}{k:Nat}:zdA cells k []=cells:=rfl
attribute [go_sem] List.set_cons_zero List.set_cons_succ List.take_nil
@[go_sem] theorem zFx {xs:List FD}{i:Nat}:zbD xs 0 (i:Int)=xs.take i:=by simp[zbD]
@[go_sem] theorem zwg {xs:List FD}{i:Nat}:zbD xs (i:Int) (xs.length:Int)=xs.drop i:=by simp[zbD]
@[go_sem] theorem zth {α:Type}[Enc α]{l:List α}{i:Nat}:(l.map enc).take i=(l.take i).map enc:=List.map_take.symm
@[go_sem] theorem ztg {α:Type}[Enc α]{l:List α}{i:Nat}:(l.map enc).drop i=(l.drop i).map enc:=List.map_drop.symm
attribute [go_sem] false_implies true_implies imp_self
@[go_sem] theorem zFZ:List.range 0=[]:=rfl
@[go_sem] theorem zF0:List.range 1=[0]:=rfl
@[go_sem] theorem zF1:List.range 2=[0,1]:=rfl
@[go_sem] theorem zF2:List.range 3=[0,1,2]:=rfl
@[go_sem] theorem zF3:List.range 4=[0,1,2,3]:=rfl
@[go_sem] theorem zF4:List.range 5=[0,1,2,3,4]:=rfl
@[go_sem] theorem zF5:List.range 6=[0,1,2,3,4,5]:=rfl
@[go_sem] theorem zF6:List.range 7=[0,1,2,3,4,5,6]:=rfl
@[go_sem] theorem zF7:List.range 8=[0,1,2,3,4,5,6,7]:=rfl
@[go_sem] theorem zF8:List.range 9=[0,1,2,3,4,5,6,7,8]:=rfl
@[go_sem] theorem zEQ:List.range 10=[0,1,2,3,4,5,6,7,8,9]:=rfl
@[go_sem] theorem zER:List.range 11=[0,1,2,3,4,5,6,7,8,9,10]:=rfl
@[go_sem] theorem zES:List.range 12=[0,1,2,3,4,5,6,7,8,9,10,11]:=rfl
@[go_sem] theorem zBf {ds:List D}:D.val (.agg ds)=(D.toFDs ds).map fun xs=> .fz (.agg xs):=by
 simp only[D.val,D.toFD,Option.map_map]
 rfl
@[go_sem] theorem zae {s:Str}:(⟨s.l⟩:Str)=s:=rfl
structure zgV where
 code:Int
 index:Int
 deriving DecidableEq,Inhabited
instance:Enc zgV:=⟨fun f=> .agg [.i .i64 f.code,.i .i64 f.index],fun| .agg [.i _ a,.i _ b]=>⟨a,b⟩|_=>⟨0,0⟩,fun _=>rfl⟩
@[go_sem] theorem zwl {f:zgV}:enc f= .agg [.i .i64 f.code,.i .i64 f.index]:=rfl
end Go.Abs
namespace Go.Abs
open Go
def Ren (n n':Nat)(pre:Id→Id)(vn:Id→Bool)(id id':Id):Prop:=id'.2<n'∧(id'=id∨(n≤id'.2∧vn id'=false∧pre id'=id))
mutual
def Dr (n n':Nat)(pre:Id→Id)(vn:Id→Bool)(z:Id→Option (List FD))(H:zau)(d:D):D→Prop
 | .junk=>True
 | .ptr id' k=>∃id,d= .ptr id k∧Ren n n' pre vn id id'
 | .arr id' es s len=>(∃id,d= .arr id es s len∧Ren n n' pre vn id id')∨(d= .full []∧len=0∧id'.2<n')
 | .ow id' es xs=>(∃id,d= .ow id es xs∧Ren n n' pre vn id id')∨(d= .full xs∧id'.2<n')
 | .fz x=>d= .fz x∨d.toFD=some x∨∃id es xs,x= .sl xs∧d= .arr id es 0 xs.length∧z id=some xs∧zbi xs es
 | .fn f caps'=>∃caps,d= .fn f caps∧Drs n n' pre vn z H caps caps'
 | .agg ds'=>∃ds,d= .agg ds∧Drs n n' pre vn z H ds ds'
 | .tup ds'=>∃ds,d= .tup ds∧Drs n n' pre vn z H ds ds'
 | .full xs=>d= .full xs
 | .rp xs=>d= .rp xs
def Drs (n n':Nat)(pre:Id→Id)(vn:Id→Bool)(z:Id→Option (List FD))(H:zau)(ds:List D):List D→Prop
 |[]=>ds=[]
 |d'::ds'=>∃d ds0,ds=d::ds0∧Dr n n' pre vn z H d d'∧Drs n n' pre vn z H ds0 ds'
end
def Zok (H:zau)(z:Id→Option (List FD)):Prop:=∀id xs,z id=some xs→xs=[]∨∃o,H id=some o∧o.virt=false∧o.cells=zag xs
section
variable {G:Nat→List FD} {N:Nat} {w:World} {L:Loc} {F:Nat→Nat→Prop} {n n':Nat} {pre:Id→Id} {vn:Id→Bool} {z:Id→Option (List FD)} {H:zau}
def zos (n:Nat)(pre:Id→Id)(vn:Id→Bool)(L:Loc):Loc:=fun id=>if n≤id.2 then(if vn id then⟨0,0,true⟩else L (pre id))else L id
def zxr (z:Id→Option (List FD))(H:zau)(L:Loc)(F:Nat→Nat→Prop):Nat→Nat→Prop:=fun b k=>F b k∨∃id xs o,z id=some xs∧xs≠[]∧H id=some o∧(L id).3=false∧b=(L id).1∧(L id).2≤k
theorem zqx {id id':Id}(hr:Ren n n' pre vn id id')(hu:Ub n id):zos n pre vn L id'=L id:=by
 obtain⟨h1,rfl|⟨h2,h3,rfl⟩⟩:=hr
 ·unfold zos;rw[if_neg (by unfold Ub at hu;omega)]
 ·unfold zos;rw[if_pos h2,h3];rfl
theorem zjp (hn:n≤n'):Ext w L F (Ub n) w (zos n pre vn L) (zxr z H L F) (Ub n'):=
 ⟨fun _ h=>Nat.lt_of_lt_of_le h hn,fun id h=>by unfold zos;rw[if_neg (by unfold Ub at h;omega)],fun _ _ h=> .inl h,fun _ _ _=>rfl,Nat.le_refl _,fun b cs T fr _ h=>⟨cs,T,fr,h,Nat.le_refl _⟩⟩
theorem zoh (hok:OkW G w L F (Ub n) H)(hz:Zok H z){id:Id}{es:Nat}{xs:List FD}{v:Value}(hv:zaj w L F (Ub n) (.arr id es 0 xs.length) v)(hzi:z id=some xs)(hl:zbi xs es):
  zbf w (zxr z H L F) v (.sl xs):=by
 simp only[zaj]at hv
 obtain⟨hu,a,cap,rfl,h1,h2,h3⟩:=hv
 rcases hz id xs hzi with rfl|⟨o,ho,hov,hoc⟩
 ·exact .sl0 a cap
 ·refine zbf.sl_mk h1 h2 fun hpos=>?_
  have hne:xs≠[]:=by rintro rfl;simp at hpos
  rcases h3 with h3|⟨rfl,hL3,hlt,_⟩
  ·omega
  ·obtain⟨hnF,cs,T,hcs,hsz,hcell⟩:=zaC (hok.live id o ho).2 hL3
   have hfl:(zag xs).length=xs.length*es:=zbp (za4 hl)
   refine⟨(L id).1,(L id).2+0,es,fun i j=>cs.getD ((L id).2+(i*es+j)) undef,rfl,fun k _=> .inr ⟨id,xs,o,hzi,hne,ho,hL3,rfl,by omega⟩,za4 hl,fun i j hi hj=>?_,fun i j hi hj=>?_⟩
   ·have hlt2:i*es+j<o.cells.length:=by
     rw[hoc,hfl];exact zol hi hj
    obtain⟨u,hu1,_⟩:=hcell _ hlt2
    rw[zfP hcs,show(L id).2+0+i*es+j=(L id).2+(i*es+j) by omega,hu1]
    simp[Array.getD_eq_getD_getElem?,hu1]
   ·have hlt2:i*es+j<o.cells.length:=by
     rw[hoc,hfl];exact zol hi hj
    obtain⟨u,hu1,hu2⟩:=hcell _ hlt2
    rw[hoc,zey (za4 hl) hi hj]at hu2
    simp only[Array.getD_eq_getD_getElem?,hu1,Option.getD_some]
    simp only[zaj]at hu2
    exact hu2.mono (fun _ _ _=>rfl) fun _ _ h=> .inl h
mutual
theorem zpH (hok:OkW G w L F (Ub n) H)(hz:Zok H z)(hn:n≤n'):∀(d' d:D) (v:Value),Dr n n' pre vn z H d d'→zaj w L F (Ub n) d v→zaj w (zos n pre vn L) (zxr z H L F) (Ub n') d' v
 | .junk,_,_,_,_=>by simp[zaj]
 | .ptr id' k,d,v,h,hv=>by
  simp only[Dr]at h
  obtain⟨id,rfl,hr⟩:=h
  simp only[zaj]at hv ⊢
  rw[zqx hr hv.1]
  exact⟨hr.1,hv.2⟩
 | .arr id' es s len,d,v,h,hv=>by
  simp only[Dr]at h
  rcases h with⟨id,rfl,hr⟩|⟨rfl,rfl,hu⟩
  ·simp only[zaj]at hv ⊢
   rw[zqx hr hv.1]
   exact⟨hr.1,hv.2⟩
  ·simp only[zaj]at hv ⊢
   obtain⟨a,rfl,_⟩:=hv
   exact⟨hu,a,0,rfl,Nat.le_refl _,Nat.zero_le _,.inl rfl⟩
 | .fz x,d,v,h,hv=>by
  simp only[Dr]at h
  rcases h with rfl|h|⟨id,es,xs,rfl,rfl,hzi,hl⟩
  ·exact hv.ext (zjp hn)
  ·have:=zaj.toFD _ _ _ hv h
   simp only[zaj]
   exact this.mono (fun _ _ _=>rfl) fun _ _ h=> .inl h
  ·simp only[zaj]
   exact zoh hok hz hv hzi hl
 | .ow id' es xs,d,v,h,hv=>by
  simp only[Dr]at h
  rcases h with⟨id,rfl,hr⟩|⟨rfl,hu⟩
  ·simp only[zaj]at hv ⊢
   obtain⟨h1,h2,a,cap,h3,h4⟩:=hv
   rw[zqx hr h1]
   exact⟨hr.1,h2.mono (fun _ _ _=>rfl) fun _ _ h=> .inl h,a,cap,h3,h4⟩
  ·simp only[zaj]at hv ⊢
   obtain⟨a,rfl,h2⟩:=hv
   exact⟨hu,h2.mono (fun _ _ _=>rfl) fun _ _ h=> .inl h,a,_,rfl,.inl rfl⟩
 | .fn f caps',d,v,h,hv=>by
  simp only[Dr]at h
  obtain⟨caps,rfl,h⟩:=h
  simp only[zaj]at hv ⊢
  obtain⟨vs,rfl,hv⟩:=hv
  exact⟨vs,rfl,zje hok hz hn caps' caps vs h hv⟩
 | .agg ds',d,v,h,hv=>by
  simp only[Dr]at h
  obtain⟨ds,rfl,h⟩:=h
  simp only[zaj]at hv ⊢
  obtain⟨vs,rfl,hv⟩:=hv
  exact⟨vs,rfl,zje hok hz hn ds' ds vs h hv⟩
 | .tup ds',d,v,h,hv=>by
  simp only[Dr]at h
  obtain⟨ds,rfl,h⟩:=h
  simp only[zaj]at hv ⊢
  obtain⟨vs,rfl,hv⟩:=hv
  exact⟨vs,rfl,zje hok hz hn ds' ds vs h hv⟩
 | .full xs,d,v,h,hv=>by
  simp only[Dr]at h
  subst h
  exact hv.ext (zjp hn)
 | .rp xs,d,v,h,hv=>by
  simp only[Dr]at h
  subst h
  exact hv.ext (zjp hn)
theorem zje (hok:OkW G w L F (Ub n) H)(hz:Zok H z)(hn:n≤n'):∀(ds' ds:List D) (vs:List Value),Drs n n' pre vn z H ds ds'→zaq w L F (Ub n) ds vs→zaq w (zos n pre vn L) (zxr z H L F) (Ub n') ds' vs
 |[],ds,vs,h,hv=>by
  simp only[Drs]at h
  subst h
  cases vs with
  |nil=>trivial
  |cons=>exact hv.elim
 |d'::ds',ds,vs,h,hv=>by
  simp only[Drs]at h
  obtain⟨d,ds0,rfl,h1,h2⟩:=h
  cases vs with
  |nil=>exact hv.elim
  |cons v vs=>
   simp only[zaq]at hv ⊢
   exact⟨zpH hok hz hn d' d v h1 hv.1,zje hok hz hn ds' ds0 vs h2 hv.2⟩
end
def Hr (n n':Nat)(pre:Id→Id)(vn:Id→Bool)(z:Id→Option (List FD))(H H':zau):Prop:=
 ∀id' o',H' id'=some o'→(vn id'=true∧n≤id'.2∧id'.2<n'∧o'.virt=true∧o'.cells=[])∨z (pre id')=none∧Ren n n' pre vn (pre id') id'∧∃o,H (pre id')=some o∧o'.virt=o.virt∧o'.cells.length=o.cells.length∧
  ∀j,j<o'.cells.length→Dr n n' pre vn z H (o.cells.getD j .junk) (o'.cells.getD j .junk)
theorem zmx {st st':St}(pre:Id→Id)(vn:Id→Bool)(z:Id→Option (List FD))(hn:st.n≤st'.n)(hz:Zok st.H z)(hH:Hr st.n st'.n pre vn z st.H st'.H)
  (hinj:∀id1 id2 o1 o2,st'.H id1=some o1→st'.H id2=some o2→pre id1=pre id2→id1=id2)
  (hfr:∀t,Dr st.n st'.n pre vn z st.H (st.fr t) (st'.fr t)):zeu G N st st':=by
 intro a w L F h
 have hok:=h.ok
 have live:∀id' o',st'.H id'=some o'→(zos st.n pre vn L id').3=false→∃o,st.H (pre id')=some o∧zos st.n pre vn L id'=L (pre id'):=fun id' o' ho hv=>by
  rcases hH id' o' ho with⟨q1,q2,_,_,_⟩|⟨_,hr,o,h1,h2,_⟩
  ·unfold zos at hv;rw[if_pos q2,if_pos q1]at hv;cases hv
  exact⟨o,h1,zqx hr (hok.live _ _ h1).1⟩
 have own:∀b k,Own st'.H (zos st.n pre vn L) b k→Own st.H L b k:=by
  rintro b k ⟨id',o',h1,h2,h3,h4⟩
  obtain⟨o,g1,g3⟩:=live id' o' h1 h2
  rw[g3]at h2 h3 h4
  exact⟨pre id',o,g1,h2,h3,h4⟩
 refine⟨zos st.n pre vn L,zxr z st.H L F,⟨⟨fun b k hb=>?_,fun id' o' ho=>?_,fun id1 id2 o1 o2 h1 h2 v1 v2 e=>?_,zcM (fun _ _ h=> .inl h) (fun _ _ _=>rfl) hok.glob⟩,h.size,fun t=>zpH hok hz hn _ _ _ (hfr t) (h.fr t),h.nd⟩,
  ⟨fun id hid=>Nat.lt_of_lt_of_le hid hn,(zjp (w:=w) (F:=F) (z:=z) (H:=st.H) hn).l,fun _ _ h=> .inl h,Nat.le_refl _,fun _ _ _=>rfl,fun _ _ _ _=>rfl,fun b cs T fr _ h=>⟨cs,T,fr,h,Nat.le_refl _⟩,fun b k hb=>?_,fun b k hb=> .inr (own b k hb),rfl,rfl,rfl,Nat.le_refl _⟩⟩
 ·rcases hb with hb|⟨id,xs,o,h1,h2,h3,h4,rfl,_⟩
  ·exact hok.fb b k hb
  ·exact hok.blk_lt h3 h4
 ·rcases hH id' o' ho with⟨q1,q2,q3,q4,q5⟩|⟨hzn,hr,o,h1,h2,h3,h4⟩
  ·refine⟨q3,?_⟩
   unfold zbK zos
   rw[if_pos q2,if_pos q1]
   simp only[if_true]
   exact⟨q5,q4⟩
  obtain⟨hu,hob⟩:=hok.live _ _ h1
  have eL:=zqx (L:=L) hr hu
  refine⟨hr.1,?_⟩
  unfold zbK at hob ⊢
  rw[eL]
  cases hv:(L (pre id')).3
  ·simp only[hv,Bool.false_eq_true,if_false]at hob ⊢
   obtain⟨g1,cs,T,g2,g3,g4⟩:=hob
   refine⟨?_,cs,T,g2,by rw[h3];exact g3,fun j hj=>?_⟩
   ·rintro k hk (hF|⟨id,xs,oz,z1,z2,z3,z4,e,_⟩)
    ·exact g1 k hk hF
    ·have:=hok.inj (pre id') id o oz h1 z3 hv z4 e
     rw[←this,hzn]at z1
     cases z1
   ·obtain⟨u,e1,e2⟩:=g4 j (by rw[←h3];exact hj)
    exact⟨u,e1,zpH hok hz hn _ _ _ (h4 j hj) e2⟩
  ·simp only[hv,if_true]at hob ⊢
   exact⟨List.eq_nil_of_length_eq_zero (by rw[h3,hob.1];rfl),by rw[h2];exact hob.2⟩
 ·obtain⟨p1,g1,g3⟩:=live id1 o1 h1 v1
  obtain⟨p2,g4,g6⟩:=live id2 o2 h2 v2
  rw[g3]at v1
  rw[g6]at v2
  rw[g3,g6]at e
  exact hinj id1 id2 o1 o2 h1 h2 (hok.inj _ _ _ _ g1 g4 v1 v2 e)
 ·rcases hb with hb|⟨id,xs,o,h1,h2,h3,h4,rfl,h6⟩
  ·exact .inl hb
  ·exact .inr (.inr ⟨id,o,h3,h4,rfl,h6⟩)
end
end Go.Abs
namespace Go.Abs
open Go
def znb:List (Id×Id)→Id→Id
 |[],i=>i
 |(a,b)::l,i=>if i=a then b else znb l i
def zL:List (Id×List FD)→Id→Option (List FD)
 |[],_=>none
 |(a,xs)::l,i=>if i=a then some xs else zL l i
def vL:List Id→Id→Bool
 |[],_=>false
 |a::l,i=>decide (i=a)||vL l i
def ZE (xs:List FD):Option O→Prop
 |none=>False
 |some o=>o.cells=zag xs∧(o.virt=true→xs=[])
def zrr (H:zau):List (Id×List FD)→Prop
 |[]=>True
 |(i,xs)::l=>ZE xs (H i)∧zrr H l
theorem zrr.ok {H:zau}:∀{l:List (Id×List FD)},zrr H l→Zok H (zL l)
 |[],_,_,_,h=>by cases h
 |(i,ys)::l,h,id,xs,e=>by
  simp only[zL]at e
  split at e
  ·rename_i e'
   subst e'
   obtain rfl:=Option.some.inj e
   have h1:=h.1
   cases ho:H id with
   |none=>rw[ho]at h1;exact h1.elim
   |some o=>
    rw[ho]at h1
    cases hv:o.virt with
    |true=>exact .inl (h1.2 hv)
    |false=>exact .inr ⟨o,rfl,hv,h1.1⟩
  ·exact zrr.ok h.2 id xs e
def HO (n n':Nat)(pre:Id→Id)(vn:Id→Bool)(z:Id→Option (List FD))(H:zau)(o':O):Option O→Prop
 |none=>False
 |some o=>o'.virt=o.virt∧Drs n n' pre vn z H o.cells o'.cells
def HE (n n':Nat)(pre:Id→Id)(vn:Id→Bool)(z:Id→Option (List FD))(H:zau)(id':Id)(o':O):Prop:=
 if vn id'=true then n≤id'.2∧id'.2<n'∧o'.virt=true∧o'.cells=[]else z (pre id')=none∧Ren n n' pre vn (pre id') id'∧HO n n' pre vn z H o' (H (pre id'))
def HrL (n n':Nat)(pre:Id→Id)(vn:Id→Bool)(z:Id→Option (List FD))(H:zau):List (Id×Option O)→Prop
 |[]=>True
 |(i,some o)::l=>HE n n' pre vn z H i o∧HrL n n' pre vn z H l
 |(_,none)::l=>HrL n n' pre vn z H l
section
variable {n n':Nat} {pre:Id→Id} {vn:Id→Bool} {z:Id→Option (List FD)} {H:zau}
theorem zlB:∀{ds' ds:List D},Drs n n' pre vn z H ds ds'→ds'.length=ds.length∧∀j,j<ds'.length→Dr n n' pre vn z H (ds.getD j .junk) (ds'.getD j .junk)
 |[],ds,h=>by simp only[Drs]at h;subst h;simp
 |d'::ds',ds,h=>by
  simp only[Drs]at h
  obtain⟨d,ds0,rfl,h1,h2⟩:=h
  obtain⟨g1,g2⟩:=zlB h2
  refine⟨by simp[g1],fun j hj=>?_⟩
  cases j with
  |zero=>simpa using h1
  |succ j=>simpa using g2 j (by simpa using hj)
theorem zzm {id':Id}{o':O}(h:HE n n' pre vn z H id' o'):(vn id'=true∧n≤id'.2∧id'.2<n'∧o'.virt=true∧o'.cells=[])∨z (pre id')=none∧Ren n n' pre vn (pre id') id'∧∃o,H (pre id')=some o∧o'.virt=o.virt∧o'.cells.length=o.cells.length∧
  ∀j,j<o'.cells.length→Dr n n' pre vn z H (o.cells.getD j .junk) (o'.cells.getD j .junk):=by
 unfold HE at h
 split at h
 ·rename_i hv;exact .inl ⟨hv,h⟩
 ·obtain⟨h1,h2,h3⟩:=h
  refine .inr ⟨h1,h2,?_⟩
  cases ho:H (pre id')with
  |none=>rw[ho]at h3;exact h3.elim
  |some o=>
   rw[ho]at h3
   obtain⟨g1,g2⟩:=zlB h3.2
   exact⟨o,rfl,h3.1,g1,g2⟩
theorem HrL.ok:∀{l:List (Id×Option O)},HrL n n' pre vn z H l→Hr n n' pre vn z H (hpL l)
 |[],_,_,_,h=>by cases h
 |(i,some o)::l,h,id',o',e=>by
  simp only[hpL]at e
  split at e
  ·rename_i e'
   subst e'
   obtain rfl:=Option.some.inj e
   exact zzm h.1
  ·exact HrL.ok h.2 id' o' e
 |(i,none)::l,h,id',o',e=>by
  simp only[hpL]at e
  split at e
  ·cases e
  ·exact HrL.ok (l:=l) h id' o' e
def ziY (pre:Id→Id):List (Id×Option O)→Prop
 |[]=>True
 |(i,_)::l=>(∀p∈l,pre p.1≠pre i)∧ziY pre l
theorem zp3:∀{l:List (Id×Option O)} {id:Id} {o:O},hpL l id=some o→∃p∈l,p.1=id
 |[],_,_,h=>by cases h
 |(i,o')::l,id,o,h=>by
  simp only[hpL]at h
  split at h
  ·rename_i e;exact⟨_,List.mem_cons_self,e.symm⟩
  ·obtain⟨p,h1,h2⟩:=zp3 h;exact⟨p,List.mem_cons_of_mem _ h1,h2⟩
theorem ziY.inj:∀{l:List (Id×Option O)},ziY pre l→∀id1 id2 o1 o2,hpL l id1=some o1→hpL l id2=some o2→pre id1=pre id2→id1=id2
 |[],_,_,_,_,_,h,_,_=>by cases h
 |(i,o)::l,h,id1,id2,o1,o2,h1,h2,e=>by
  simp only[hpL]at h1 h2
  by_cases e1:id1=i
  ·by_cases e2:id2=i
   ·rw[e1,e2]
   ·rw[if_neg e2]at h2
    obtain⟨p,hp,rfl⟩:=zp3 h2
    exact absurd (by rw[←e,e1]) (h.1 p hp)
  ·rw[if_neg e1]at h1
   by_cases e2:id2=i
   ·obtain⟨p,hp,rfl⟩:=zp3 h1
    exact absurd (by rw[e,e2]) (h.1 p hp)
   ·rw[if_neg e2]at h2
    exact ziY.inj h.2 id1 id2 o1 o2 h1 h2 e
def FrR (n n':Nat)(pre:Id→Id)(vn:Id→Bool)(z:Id→Option (List FD))(H:zau)(fr:Nat→D):List (Nat×D)→Prop
 |[]=>True
 |(k,d)::l=>Dr n n' pre vn z H (fr k) d∧FrR n n' pre vn z H fr l
theorem FrR.get {fr:Nat→D}:∀{l:List (Nat×D)},FrR n n' pre vn z H fr l→∀t,Dr n n' pre vn z H (fr t) (frL l t)
 |[],_,_=>by simp[frL,Dr]
 |(k,d)::l,h,t=>by
  simp only[frL]
  split
  ·rename_i e;subst e;exact h.1
  ·exact FrR.get h.2 t
theorem zcV {G:Nat→List FD}{N:Nat}{st:St}{l:List (Nat×D)}{hl:List (Id×Option O)}{m:Nat}(pr:List (Id×Id))(vs:List Id)(zs:List (Id×List FD))
  (hn:st.n≤m)(hz:zrr st.H zs)(hh:HrL st.n m (znb pr) (vL vs) (zL zs) st.H hl)(ha:ziY (znb pr) hl)(hf:FrR st.n m (znb pr) (vL vs) (zL zs) st.H st.fr l):
  zeu G N st ⟨frL l,hpL hl,m⟩:=
 zmx (st':=⟨frL l,hpL hl,m⟩) (znb pr) (vL vs) (zL zs) hn hz.ok hh.ok (fun id1 id2 o1 o2 h1 h2 e=>ha.inj id1 id2 o1 o2 h1 h2 e) fun t=>hf.get t
theorem zgU:∀(ds:List D),(∀d∈ds,∃x,d= .fz x)→Drs n n' pre vn z H ds ds
 |[],_=>by simp[Drs]
 |d::ds,h=>by
  obtain⟨x,rfl⟩:=h d (by simp)
  simp only[Drs]
  exact⟨.fz x,ds,rfl,by simp[Dr],zgU ds fun d hd=>h d (by simp[hd])⟩
@[go_sem] theorem zC4 {xs:List FD}:Drs n n' pre vn z H (zag xs) (zag xs)=True:=by
 refine eq_true (zgU _ fun d hd=>?_)
 simp only[zag,List.mem_flatMap,List.mem_map]at hd
 obtain⟨_,_,x,_,rfl⟩:=hd
 exact⟨x,rfl⟩
@[go_sem] theorem zEJ:Drs n n' pre vn z H [] []=True:=by simp[Drs]
@[go_sem] theorem zxy {d d':D}{ds ds':List D}:Drs n n' pre vn z H (d::ds) (d'::ds')=(Dr n n' pre vn z H d d'∧Drs n n' pre vn z H ds ds'):=by
 simp only[Drs,List.cons.injEq,eq_iff_iff]
 exact⟨fun⟨_,_,⟨rfl,rfl⟩,h1,h2⟩=>⟨h1,h2⟩,fun⟨h1,h2⟩=>⟨_,_,⟨rfl,rfl⟩,h1,h2⟩⟩
@[go_sem] theorem zEK {id id':Id}{k k':Nat}:Dr n n' pre vn z H (.ptr id k) (.ptr id' k')=(k=k'∧Ren n n' pre vn id id'):=by
 simp only[Dr,D.ptr.injEq,eq_iff_iff]
 constructor
 ·rintro⟨_,⟨rfl,rfl⟩,h⟩;exact⟨rfl,h⟩
 ·rintro⟨rfl,h2⟩;exact⟨_,⟨rfl,rfl⟩,h2⟩
@[go_sem] theorem zEE {id id':Id}{es s len es' s' len':Nat}:Dr n n' pre vn z H (.arr id es s len) (.arr id' es' s' len')=(es=es'∧s=s'∧len=len'∧Ren n n' pre vn id id'):=by
 simp only[Dr,D.arr.injEq,reduceCtorEq,false_and,or_false,eq_iff_iff]
 constructor
 ·rintro⟨_,⟨rfl,rfl,rfl,rfl⟩,h⟩;exact⟨rfl,rfl,rfl,h⟩
 ·rintro⟨rfl,rfl,rfl,h4⟩;exact⟨_,⟨rfl,rfl,rfl,rfl⟩,h4⟩
@[go_sem] theorem zC9 {id':Id}{es s len:Nat}:Dr n n' pre vn z H (.full []) (.arr id' es s len)=(len=0∧id'.2<n'):=by
 simp[Dr]
@[go_sem] theorem zEH {id:Id}{es s len:Nat}{xs:List FD}:Dr n n' pre vn z H (.arr id es s len) (.fz (.sl xs))=(s=0∧len=xs.length∧z id=some xs∧zbi xs es):=by
 simp only[Dr,reduceCtorEq,D.toFD,FD.sl.injEq,D.arr.injEq,false_or,eq_iff_iff]
 constructor
 ·rintro⟨_,_,_,rfl,⟨rfl,rfl,rfl,rfl⟩,h1,h2⟩;exact⟨rfl,rfl,h1,h2⟩
 ·rintro⟨rfl,rfl,h1,h2⟩;exact⟨_,_,_,rfl,⟨rfl,rfl,rfl,rfl⟩,h1,h2⟩
@[go_sem] theorem zFS {id id':Id}{es es':Nat}{xs xs':List FD}:Dr n n' pre vn z H (.ow id es xs) (.ow id' es' xs')=(es=es'∧xs=xs'∧Ren n n' pre vn id id'):=by
 simp only[Dr,D.ow.injEq,reduceCtorEq,false_and,or_false,eq_iff_iff]
 constructor
 ·rintro⟨_,⟨rfl,rfl,rfl⟩,h⟩;exact⟨rfl,rfl,h⟩
 ·rintro⟨rfl,rfl,h4⟩;exact⟨_,⟨rfl,rfl,rfl⟩,h4⟩
@[go_sem] theorem zzd {id':Id}{es:Nat}{xs xs':List FD}:Dr n n' pre vn z H (.full xs) (.ow id' es xs')=(xs=xs'∧id'.2<n'):=by
 simp only[Dr,reduceCtorEq,false_and,exists_false,false_or,D.full.injEq]
@[go_sem] theorem zC7 {id:Id}{es:Nat}{xs:List FD}{y:FD}:Dr n n' pre vn z H (.ow id es xs) (.fz y)=(FD.sl xs=y):=by
 simp only[Dr,reduceCtorEq,D.toFD,Option.some.injEq,false_and,and_false,exists_false,or_false,false_or]
@[go_sem] theorem zEI {x y:FD}:Dr n n' pre vn z H (.fz x) (.fz y)=(x=y):=by
 simp only[Dr,D.fz.injEq,D.toFD,Option.some.injEq,reduceCtorEq,false_and,and_false,exists_false,or_false,or_self]
@[go_sem] theorem zC5 {xs:List FD}{y:FD}:Dr n n' pre vn z H (.full xs) (.fz y)=(FD.sl xs=y):=by
 simp only[Dr,reduceCtorEq,D.toFD,Option.some.injEq,false_and,and_false,exists_false,or_false,false_or]
@[go_sem] theorem zA5 {xs ys:List FD}:Dr n n' pre vn z H (.full xs) (.full ys)=(xs=ys):=by
 simp only[Dr,D.full.injEq]
@[go_sem] theorem zC6 {d:D}:Dr n n' pre vn z H d .junk=True:=by simp[Dr]
@[go_sem] theorem zFM {f g:FuncId}{c c':List D}:Dr n n' pre vn z H (.fn f c) (.fn g c')=(f=g∧Drs n n' pre vn z H c c'):=by
 simp only[Dr,D.fn.injEq,eq_iff_iff]
 constructor
 ·rintro⟨_,⟨rfl,rfl⟩,h⟩;exact⟨rfl,h⟩
 ·rintro⟨rfl,h2⟩;exact⟨_,⟨rfl,rfl⟩,h2⟩
@[go_sem] theorem zC8 {id:Id}:Ren n n' pre vn id id=(id.2<n'):=by simp[Ren]
theorem zuz {id id':Id}:Ren n n' pre vn id id'=(id'.2<n'∧(id'=id∨(n≤id'.2∧vn id'=false∧pre id'=id))):=rfl
@[go_sem] theorem zEF {fr:Nat→D}:FrR n n' pre vn z H fr []=True:=rfl
@[go_sem] theorem zEG {fr:Nat→D}{k:Nat}{d:D}{l:List (Nat×D)}:FrR n n' pre vn z H fr ((k,d)::l)=(Dr n n' pre vn z H (fr k) d∧FrR n n' pre vn z H fr l):=rfl
@[go_sem] theorem zFN:HrL n n' pre vn z H []=True:=rfl
@[go_sem] theorem zFO {i:Id}{o:O}{l:List (Id×Option O)}:HrL n n' pre vn z H ((i,some o)::l)=(HE n n' pre vn z H i o∧HrL n n' pre vn z H l):=rfl
@[go_sem] theorem zFP {i:Id}{o:O}:HE n n' pre vn z H i o=if vn i=true then n≤i.2∧i.2<n'∧o.virt=true∧o.cells=[]else z (pre i)=none∧Ren n n' pre vn (pre i) i∧HO n n' pre vn z H o (H (pre i)):=rfl
@[go_sem] theorem zFR {o o':O}:HO n n' pre vn z H o' (some o)=(o'.virt=o.virt∧Drs n n' pre vn z H o.cells o'.cells):=rfl
@[go_sem] theorem zFW:zrr H []=True:=rfl
@[go_sem] theorem zFX {i:Id}{xs:List FD}{l:List (Id×List FD)}:zrr H ((i,xs)::l)=(ZE xs (H i)∧zrr H l):=rfl
@[go_sem] theorem zFY {o:O}{xs:List FD}:ZE xs (some o)=(o.cells=zag xs∧(o.virt=true→xs=[])):=rfl
@[go_sem] theorem zFK:ziY pre []=True:=rfl
@[go_sem] theorem zFL {i:Id}{o:Option O}{l:List (Id×Option O)}:ziY pre ((i,o)::l)=((∀p∈l,pre p.1≠pre i)∧ziY pre l):=rfl
@[go_sem] theorem zFT {i:Id}:znb [] i=i:=rfl
@[go_sem] theorem zFU {a b i:Id}{l:List (Id×Id)}:znb ((a,b)::l) i=if i=a then b else znb l i:=rfl
@[go_sem] theorem zEO {i:Id}:zL [] i=none:=rfl
@[go_sem] theorem zEP {a i:Id}{xs:List FD}{l:List (Id×List FD)}:zL ((a,xs)::l) i=if i=a then some xs else zL l i:=rfl
@[go_sem] theorem zEM {i:Id}:vL [] i=false:=rfl
@[go_sem] theorem zEN {a i:Id}{l:List Id}:vL (a::l) i=(decide (i=a)||vL l i):=rfl
attribute [go_sem] List.forall_mem_cons List.not_mem_nil List.mem_cons forall_eq_or_imp forall_eq Option.some.injEq reduceCtorEq
@[go_sem] theorem zx9:zag []=[]:=rfl
@[go_sem] theorem zx8 {xs ys:List FD}:zag xs++zag ys=zag (xs++ys):=by simp[zag]
end
end Go.Abs
namespace Go.Abs
open Go
section
variable {P:Program} {G:Nat→List FD}
theorem zdp {f:FuncId}{args args':List D}{H H':zau}{n n':Nat}{R:D→zau→Nat→Prop}(hlen:args'.length=args.length)
  (hW:zeu G args.length ⟨frL (zg1 0 args),H,n⟩ ⟨frL (zg1 0 args'),H',n'⟩)(h:zaE P G f args' H' n' R):zaE P G f args H n R:=by
 refine⟨h.1,fun w L F vs hok hvs=>?_⟩
 have hvl:=(zaq.iff _ _).1 hvs
 have hrel:Rel G args.length ⟨frL (zg1 0 args),H,n⟩ {tmps:=vs.toArray,defers:=[]} w L F:=by
  refine⟨hok,by simpa using hvl.1,fun t=>?_,rfl⟩
  simp only
  rw[←zdL]
  simp only[zi4]
  by_cases ht:t<args.length
  ·have:=hvl.2 t ht
   simpa[Array.getD_eq_getD_getElem?,List.getD_eq_getElem?_getD]using this
  ·have:args.getD t .junk= .junk:=by rw[List.getD_eq_getElem?_getD,List.getElem?_eq_none (by omega)];rfl
   rw[this];simp[zaj]
 obtain⟨L1,F1,h1,h2⟩:=hW _ w L F hrel
 have hvs':zaq w L1 F1 (Ub n') args' vs:=by
  rw[zaq.iff]
  refine⟨by rw[hlen];exact hvl.1,fun j hj=>?_⟩
  have:=h1.fr j
  simp only at this
  rw[←zdL]at this
  simp only[zi4]at this
  simpa[Array.getD_eq_getD_getElem?,List.getD_eq_getElem?_getD]using this
 refine(h.2 w L1 F1 vs h1.ok hvs').mono fun e w' he=>?_
 obtain⟨v,d,H2,n2,L2,F2,e1,e2,e3,e4,e5⟩:=he
 exact⟨v,d,H2,n2,L2,F2,e1,e2,e3,e4,zbt.trans h2 e5⟩
theorem zlD {f:FuncId}{args args':List D}{H:zau}{hl:List (Id×Option O)}{n n':Nat}{R:D→zau→Nat→Prop}(pr:List (Id×Id))(vs:List Id)(zs:List (Id×List FD))(hlen:args'.length=args.length)
  (hn:n≤n')(hz:zrr H zs)(hh:HrL n n' (znb pr) (vL vs) (zL zs) H hl)(ha:ziY (znb pr) hl)(hf:Drs n n' (znb pr) (vL vs) (zL zs) H args args')
  (h:zaE P G f args' (hpL hl) n' R):zaE P G f args H n R:=by
 refine zdp hlen ?_ h
 refine zmx (st':=⟨frL (zg1 0 args'),hpL hl,n'⟩) (znb pr) (vL vs) (zL zs) hn hz.ok hh.ok (fun id1 id2 o1 o2 h1 h2 e=>ha.inj id1 id2 o1 o2 h1 h2 e) fun t=>?_
 simp only
 rw[←zdL,←zdL]
 simp only[zi4]
 obtain⟨g1,g2⟩:=zlB hf
 by_cases ht:t<args'.length
 ·exact g2 t ht
 ·have:args'.getD t .junk= .junk:=by rw[List.getD_eq_getElem?_getD,List.getElem?_eq_none (by omega)];rfl
  rw[this];simp[Dr]
theorem zo5 {T:Tbl}(hT:zam P G T){f:FuncId}{t:List FD→Option (D×Prop)}{args:List D}{xs:List FD}{r:D}{c:Prop}{H:zau}{n:Nat}{R:D→zau→Nat→Prop}(ht:T f=some t)(ha:D.toFDs args=some xs)(hx:t xs=some (r,c))(hc:c)(hR:R r H n):zaE P G f args H n R:=by
 refine zaQ (zh9 ha (hT _ _ _ _ _ ht hx hc)) ?_
 rintro d H' n' ⟨rfl,rfl,rfl⟩
 exact hR
end
end Go.Abs
namespace Go.Abs
open Go
theorem zc1 {xs:List FD}(h:zbi xs 1):(zag xs).length=xs.length:=by
 rw[zbp (za4 h),Nat.mul_one]
class One (α:Type)[Enc α]:Prop where
 one:∀a:α,(enc a).cells=[enc a]
 ob:∀a:α,zcm (.fz (enc a))=true
instance:One Str:=⟨fun _=>rfl,fun _=>rfl⟩
instance:One Int:=⟨fun _=>rfl,fun _=>rfl⟩
instance:One Bool:=⟨fun _=>rfl,fun _=>rfl⟩
instance {α:Type}[Enc α]:One (List α):=⟨fun _=>rfl,fun _=>rfl⟩
section
variable {α:Type} [Enc α] [One α]
theorem za0:∀(l:List α),zag (l.map enc)=l.map fun a=> .fz (enc a)
 |[]=>rfl
 |a::l=>by
  have:=za0 l
  simp only[zag,List.map_cons,List.flatMap_cons]at this ⊢
  rw[this,One.one a]
  rfl
@[go_sem] theorem zs2 {l:List α}:(zag (l.map enc)).length=l.length:=by rw[za0];simp
@[go_sem] theorem zr0 {l:List α}{i:Nat}:(zag (l.map enc)).take i=zag ((l.take i).map enc):=by rw[za0,za0,List.map_take]
@[go_sem] theorem zrZ {l:List α}{i:Nat}:(zag (l.map enc)).drop i=zag ((l.drop i).map enc):=by rw[za0,za0,List.map_drop]
@[go_sem] theorem zsZ {l:List α}:(zag (l.map enc)).all zcm=true:=by
 rw[za0,List.all_eq_true]
 intro d hd
 obtain⟨a,_,rfl⟩:=List.mem_map.1 hd
 exact One.ob a
theorem zpS {l:List α}{i:Nat}(h:i<l.length):(zag (l.map enc)).getD i .junk= .fz (enc l[i]):=by
 rw[za0];simp[List.getD_eq_getElem?_getD,h]
@[go_sem] theorem zzg:∀{l:List α},zsK (zag (l.map enc))=some (l.map enc):=fun{l}=>by
 rw[za0]
 induction l with
 |nil=>rfl
 |cons a l ih=>
  have h1:=One.ob a
  simp only[List.map_cons]
  generalize enc a=x at h1 ⊢
  cases x with
  |agg _=>simp[zcm]at h1
  |_=>simp only[zsK,ih,Option.map_some]
theorem zjm {l:List α}{i:Nat}{a:α}:(zag (l.map enc)).set i (.fz (enc a))=zag ((l.set i a).map enc):=by
 rw[za0,za0,List.map_set]
@[go_sem] theorem zs1 {l:List α}:(zag (l.map enc)).isEmpty=l.isEmpty:=by rw[za0];cases l<;>rfl
end
@[go_sem] theorem ztS {xs:List FD}:(zag [.sl xs]).all zcm=true:=rfl
@[go_sem] theorem zu9 {l:List UInt8}:(zag [.s l]).all zcm=true:=rfl
@[go_sem] theorem zu8 {k:IntKind}{n:Int}:(zag [.i k n]).all zcm=true:=rfl
@[go_sem] theorem ztT {xs:List FD}:zag [.sl xs]=[.fz (.sl xs)]:=rfl
@[go_sem] theorem zvb {l:List UInt8}:zag [.s l]=[.fz (.s l)]:=rfl
@[go_sem] theorem zva {k:IntKind}{n:Int}:zag [.i k n]=[.fz (.i k n)]:=rfl
@[go_sem] theorem zsY {cs xs:List FD}:(zag (.agg cs::xs)).all zcm=((cs.map D.fz).all zcm&&(zag xs).all zcm):=by
 simp only[zag,List.flatMap_cons,List.all_append];rfl
@[go_sem] theorem zs0:(zag []).all zcm=true:=rfl
attribute [go_sem] List.take_length List.set_nil
@[go_sem] theorem zw3 {H:zau}{te:TI}{id:Id}{es s len:Nat}:zbn H te (.arr id es s len)=@obK _ _ (H id) ⟨fun o=>some (len,(o.cells.drop s).take (len*te.size),es=te.size∧s+len*te.size≤o.cells.length)⟩:=by
 have e:zbn H te (.arr id es s len)=match H id with
  |some o=>some (len,(o.cells.drop s).take (len*te.size),es=te.size∧s+len*te.size≤o.cells.length)
  |none=>none:=rfl
 rw[e]
 unfold obK ob
 cases H id<;>rfl
@[go_sem] theorem zwk {α:Type}{xs ys:List α}:(xs++ys).isEmpty=(xs.isEmpty&&ys.isEmpty):=by cases xs<;>simp
attribute [go_sem] List.isEmpty_cons List.isEmpty_nil List.length_append List.map_append List.length_singleton
section
variable {n n':Nat} {pre:Id→Id} {vn:Id→Bool} {z:Id→Option (List FD)} {H:zau}
@[go_sem] theorem zFQ {i:Id}{l:List (Id×Option O)}:HrL n n' pre vn z H ((i,none)::l)=HrL n n' pre vn z H l:=rfl
attribute [go_sem] Nat.not_lt_zero
end
end Go.Abs
