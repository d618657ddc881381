/- a framework of my own: an abstract walk over the machine, part 2; no conditions -/
import Derived.Test.YtalbdmcklgglbaaDoorA1
set_option linter.unusedSimpArgs false
namespace Go.Abs
open Go
def W (P:Program)(G:Nat→List FD)(N:Nat)(c:Code)(Q:Exit→St→Prop)(st:St):Prop:=
 ∀(a:Act) (w:World) (L:Loc) (F:Nat→Nat→Prop),Rel G N st a w L F→c.wp P (fun e a' w'=>Sat G N st w L F (Q e) a' w') a w
section
variable {P:Program} {G:Nat→List FD} {N tag0:Nat} {st:St} {a:Act} {w:World} {L:Loc} {F:Nat→Nat→Prop} {K:St→Prop} {Q:Exit→St→Prop}
theorem Sat.mono {st0:St}{w0 L0 F0}{K K':St→Prop}{a w}(h:Sat G N st0 w0 L0 F0 K a w)(hk:∀st,K st→K' st):Sat G N st0 w0 L0 F0 K' a w:=by
 obtain⟨st,L,F,h1,h2,h3⟩:=h
 exact⟨st,L,F,hk _ h1,h2,h3⟩
theorem Sat.trans {st0 st1:St}{w0 L0 F0 w1 L1 F1}{a w}(hs:zgB st0 w0 L0 F0 st1 w1 L1 F1)(h:Sat G N st1 w1 L1 F1 K a w):Sat G N st0 w0 L0 F0 K a w:=by
 obtain⟨st,L,F,h1,h2,h3⟩:=h
 exact⟨st,L,F,h1,h2,zbL.trans hs h3⟩
theorem zsE {ops:Array Oper}{o:Oper}{j:Nat}{want:Bool}{t:Tmp}{x:Bool}(hg:o.guard=some (j,want))(ht:(ops[j]?).bind (·.dst)=some t)(hx:st.fr t= .fz (.b x))(h:Rel G N st a w L F)(htN:t<N):
  Region.wanted o (yielded ops a.tmps)=(x==want):=by
 have h1:=h.fr t
 rw[hx]at h1
 have h2:=vb h1
 have hlt:t<a.tmps.size:=by rw[h.size];exact htN
 have h3:a.tmps[t]?=some (.bool x):=by
  rw[←h2];simp[Array.getD_eq_getD_getElem?,hlt]
 simp[Region.wanted,hg,yielded,ht,h3]
theorem zBJ (h:Rel G N st a w L F){t:Tmp}{x:Bool}(hx:st.fr t= .fz (.b x)):t<N:=by
 rcases Nat.lt_or_ge t N with h'|h'
 ·exact h'
 ·have h1:=h.fr t
  rw[hx]at h1
  have h2:=vb h1
  rw[Array.getD_eq_getD_getElem?,Array.getElem?_eq_none (by rw[h.size];exact h')]at h2
  simp[undef]at h2
theorem zus {c:Code}{Q':Exit→St→Prop}(h:W P G N c Q st)(hq:∀e st,Q e st→Q' e st):W P G N c Q' st:=
 fun a w L F hr=>wp_mono (h a w L F hr) fun e _ _ hs=>hs.mono (hq e)
theorem zut (h:Q .normal st):W P G N .skip Q st:=fun _ _ L F hr=>wp_skip ⟨st,L,F,h,hr,zbL.refl _ _ _ _ _⟩
theorem zuq {id:Nat}(h:Q (.exit id) st):W P G N (.exit id) Q st:=fun _ _ L F hr=>wp_exit ⟨st,L,F,h,hr,zbL.refl _ _ _ _ _⟩
theorem zx0 (h:Q .ret st):W P G N .ret Q st:=fun _ _ L F hr=>wp_ret ⟨st,L,F,h,hr,zbL.refl _ _ _ _ _⟩
def zGS (P:Program)(G:Nat→List FD)(N:Nat)(b:Code)(Q:Exit→St→Prop):Exit→St→Prop
 | .normal,st=>W P G N b Q st
 |e,st=>Q e st
theorem zx1 {c b:Code}(h:W P G N c (zGS P G N b Q) st):W P G N (.seq c b) Q st:=by
 intro a w L F hr
 refine wp_seq (wp_mono (h a w L F hr) fun e a1 w1 hs=>?_)
 cases e with
 |normal=>
  obtain⟨st1,L1,F1,h1,h2,h3⟩:=hs
  exact wp_mono (h1 a1 w1 L1 F1 h2) fun e _ _ hs=>hs.trans h3
 |_=>exact hs
theorem zup {c:Operand}{x y:Code}{t:Bool}(hc:st.ev G c= .fz (.b t))(h1:t=true→W P G N x Q st)(h2:t=false→W P G N y Q st):W P G N (.cond c x y) Q st:=by
 intro a w L F hr
 have:=hr.ev c
 rw[hc]at this
 exact wp_cond_split (vb this) (fun h=>h1 h a w L F hr) (fun h=>h2 h a w L F hr)
def zha (id:Nat)(Q:Exit→St→Prop):Exit→St→Prop
 | .exit i,st=>if i=id then Q .normal st else Q (.exit i) st
 |e,st=>Q e st
theorem zpZ {id:Nat}{c:Code}(h:W P G N c (zha id Q) st):W P G N (.block id c) Q st:=by
 intro a w L F hr
 refine wp_block (wp_mono (h a w L F hr) fun e a1 w1 hs=>?_)
 cases e with
 |exit i=>
  by_cases e:i=id
  ·simp only[Exit.inBlock,if_pos e];exact hs.mono fun st h=>by simpa[zha,e]using h
  ·simp only[Exit.inBlock,if_neg e];exact hs.mono fun st h=>by simpa[zha,e]using h
 |_=>exact hs
def zgh (G:Nat→List FD)(N:Nat)(st st':St):Prop:=
 ∀a w L F,Rel G N st a w L F→∃L' F',Rel G N st' a w L' F'∧zgB st w L F st' w L' F'
theorem zgh.refl (st:St):zgh G N st st:=fun _ _ L F h=>⟨L,F,h,zbL.refl _ _ _ _ _⟩
theorem zgh.trans {s1 s2 s3:St}(h1:zgh G N s1 s2)(h2:zgh G N s2 s3):zgh G N s1 s3:=fun a w L F h=>
 let⟨_,_,h3,h4⟩:=h1 a w L F h
 let⟨L2,F2,h5,h6⟩:=h2 a w _ _ h3
 ⟨L2,F2,h5,zbL.trans h4 h6⟩
theorem zx2 {c:Code}{st':St}(hw:zgh G N st st')(h:W P G N c Q st'):W P G N c Q st:=by
 intro a w L F hr
 obtain⟨L1,F1,h1,h2⟩:=hw a w L F hr
 exact wp_mono (h a w L1 F1 h1) fun e _ _ hs=>hs.trans h2
def zzo (G:Nat→List FD)(N:Nat){ι:Type}(I:ι→St)(μ:ι→Nat)(i:ι)(Q:Exit→St→Prop):Exit→St→Prop
 | .normal,st=>∃i',μ i'<μ i∧zgh G N st (I i')
 |e,st=>Q e st
theorem zur {c:Code}{ι:Type}(I:ι→St)(μ:ι→Nat)(i:ι)(h0:zgh G N st (I i))(round:∀i,W P G N c (zzo G N I μ i Q) (I i)):W P G N (.loop c) Q st:=by
 refine zx2 h0 ?_
 clear h0
 intro a w L F hr b k cs
 have key:∀n i a w L F,μ i=n→Rel G N (I i) a w L F→
   ∃e a' w',Sat G N (I i) w L F (Q e) a' w'∧Arrives P (lone (b.at a (.code c:: .inLoop c::k)) cs w) b k cs e a' w':=by
  intro n
  induction n using Nat.strongRecOn with
  |_ n ih=>
   intro i a w L F hn hI
   obtain⟨e,a₁,w₁,hq,harr⟩:=round i a w L F hI b (.inLoop c::k) cs
   cases e with
   |normal=>
    obtain⟨st1,L1,F1,⟨i',hlt,hw⟩,h2,h3⟩:=hq
    obtain⟨L2,F2,h4,h5⟩:=hw _ _ _ _ h2
    obtain⟨e₂,a₂,w₂,hq₂,harr₂⟩:=ih (μ i') (hn▸hlt) i' a₁ w₁ L2 F2 rfl h4
    exact⟨e₂,a₂,w₂,(hq₂.trans h5).trans h3,.of_steps (Steps.trans harr (.one step_inLoop)) harr₂⟩
   |exit id=>exact⟨_,a₁,w₁,hq,.pass (x:= .inLoop c) rfl (fun _ _=> .inl (by simp)) harr⟩
   |goto l=>exact⟨_,a₁,w₁,hq,.pass (x:= .inLoop c) rfl (fun _ _=> .inl (by simp)) harr⟩
   |ret=>exact⟨_,a₁,w₁,hq,.pass (x:= .inLoop c) rfl (fun _ _=> .inl (by simp)) harr⟩
   |panic ch=>exact⟨_,a₁,w₁,hq,.pass (x:= .inLoop c) rfl (fun _ _=> .inl (by simp)) harr⟩
   |outgrown=>exact⟨_,a₁,w₁,hq,.pass (x:= .inLoop c) rfl (fun _ _=> .inl (by simp)) harr⟩
 obtain⟨e,a',w',hq,harr⟩:=key _ i a w L F rfl hr
 exact⟨e,a',w',hq,.of_steps (.one step_loop) harr⟩
def zjT (P:Program)(st:St):ResultVar→Option (D×Prop)
 | .tmp t=>some (st.fr t,True)
 | .cell t ty=>zeh P st.H ty (st.fr t)
def zdX (P:Program)(st:St):List ResultVar→Option (List D×Prop)
 |[]=>some ([],True)
 |r::rs=>
  match zjT P st r,zdX P st rs with
  |some (d,c),some (ds,cs)=>some (d::ds,c∧cs)
  |_,_=>none
def one (ds:List D):D:=
 match ds with
 |[d]=>d
 |ds=> .tup ds
def zzG (tmps:Array Value):ResultVar→Sem Value
 | .tmp t=>pure (tmps.getD t undef)
 | .cell x t=>do loadVar t (←asAddr (tmps.getD x undef))
theorem zpy (fn:Func)(tmps:Array Value):results fn tmps=(do let vs ←fn.results.mapM (zzG tmps);pure (if h:vs.size=1 then vs[0]else .tuple vs)):=by
 unfold results
 congr 1
theorem zt6 (h:Rel G N st a w L F){r:ResultVar}{d c}(hr:zjT P st r=some (d,c))(hc:c):
  ∃v,(zzG a.tmps r).run P w= .ok v w∧zak w L F (Ub st.n) d v:=by
 cases r with
 |tmp t=>
  simp only[zjT,Option.some.injEq,Prod.mk.injEq]at hr
  obtain⟨rfl,_⟩:=hr
  exact⟨_,rfl,h.fr t⟩
 |cell t ty=>
  simp only[zjT]at hr
  obtain⟨v,h1,h2⟩:=zk6 hr hc h.ok (h.fr t)
  refine⟨v,?_,h2⟩
  have hp:∃p,a.tmps.getD t undef= .pointer (some p):=by
   have h3:=h.fr t
   unfold zeh at hr
   split at hr
   ·cases hr
   ·split at hr
    ·rename_i hx;rw[hx]at h3;simp only[zak]at h3;obtain⟨b,off,e,_⟩:=h3;exact⟨_,e⟩
    ·rename_i hx;rw[hx]at h3;simp only[zak]at h3;obtain⟨_,_,e⟩:=h3;exact⟨_,e⟩
    ·cases hr
  obtain⟨p,hp⟩:=hp
  rw[hp]at h1
  simp only[zzG]
  rw[hp]
  simpa[Instr.loadAt,Instr.sureAddr,asAddr]using h1
theorem znX (h:Rel G N st a w L F):∀{rs:List ResultVar} {ds c},zdX P st rs=some (ds,c)→c→
  ∃vs:List Value,(rs.mapM (zzG a.tmps)).run P w= .ok vs w∧zap w L F (Ub st.n) ds vs
 |[],ds,c,hr,_=>by
  simp only[zdX,Option.some.injEq,Prod.mk.injEq]at hr
  obtain⟨rfl,_⟩:=hr
  exact⟨[],by simp,by simp[zap]⟩
 |r::rs,ds,c,hr,hc=>by
  simp only[zdX]at hr
  split at hr
  ·rename_i d c1 ds1 c2 h1 h2
   simp only[Option.some.injEq,Prod.mk.injEq]at hr
   obtain⟨rfl,rfl⟩:=hr
   obtain⟨v,g1,g2⟩:=zt6 h h1 hc.1
   obtain⟨vs,g3,g4⟩:=znX h h2 hc.2
   exact⟨v::vs,by rw[List.mapM_cons,Sem.run_bind,g1];simp[g3],by simp only[zap];exact⟨g2,g4⟩⟩
  ·cases hr
theorem zpz (h:Rel G N st a w L F){fn:Func}{ds c}(hr:zdX P st fn.results.toList=some (ds,c))(hc:c):
  ∃v,(results fn a.tmps).run P w= .ok v w∧zak w L F (Ub st.n) (one ds) v:=by
 obtain⟨vs,h1,h2⟩:=znX h hr hc
 have hm:(fn.results.mapM (zzG a.tmps)).run P w= .ok vs.toArray w:=by
  rw[←Array.toArray_toList (xs:=fn.results),List.mapM_toArray,Sem.run_map,h1]
  rfl
 rw[zpy,Sem.run_bind,hm]
 simp only[Result.andThen_ok,Sem.run_pure]
 by_cases hs:vs.toArray.size=1
 ·rw[dif_pos hs]
  refine⟨_,rfl,?_⟩
  match vs,ds,hs,h2 with
  |[v],[d],_,h2=>simpa[one,zap]using h2
 ·rw[dif_neg hs]
  refine⟨_,rfl,?_⟩
  have:one ds= .tup ds:=by
   have hl:=((zap.iff _ _).1 h2).1
   match ds with
   |[]=>rfl
   |[d]=>simp at hs;simp at hl;omega
   |_::_::_=>rfl
  rw[this]
  simp only[zak]
  exact⟨vs,rfl,h2⟩
def zBh (P:Program)(fn:Func)(Q:D→zas→Nat→Prop):Exit→St→Prop
 | .normal,st| .ret,st=>
  match zdX P st fn.results.toList with
  |some (ds,c)=>c∧Q (one ds) st.H st.n
  |none=>False
 |_,_=>False
def zks (args:List D):Nat→D:=fun t=>args.getD t .junk
theorem zgZ {f:FuncId}{fn:Func}{c:Code}{args:List D}{H:zas}{n:Nat}{Q:D→zas→Nat→Prop}(hcall:zam P f)(hf:P.funcs[f]?=some fn)(hb:fn.body=some c){N:Nat}(hN:fn.ntmps=N)(hl:args.length≤N)
  (h:W P G N c (zBh P fn Q) ⟨zks args,H,n⟩):zav P G f args H n Q:=by
 refine⟨hcall,fun w L F vs hok hvs=>?_⟩
 refine calls_of_wp hf hb ?_
 have hvl:=((zap.iff _ _).1 hvs)
 have hrel:Rel G N ⟨zks args,H,n⟩ {tmps:=vs.toArray++Array.replicate (fn.ntmps-vs.toArray.size) undef,defers:=[]} w L F:=by
  refine⟨hok,by simp;omega,fun t=>?_,rfl⟩
  simp only[zks]
  by_cases ht:t<args.length
  ·have:=hvl.2 t ht
   rw[Array.getD_eq_getD_getElem?,Array.getElem?_append_left (by simp;omega)]
   simpa[List.getD_eq_getElem?_getD]using this
  ·have:args.getD t .junk= .junk:=by rw[List.getD_eq_getElem?_getD,List.getElem?_eq_none (by omega)];rfl
   rw[this];simp[zak]
 refine wp_mono (h _ w L F hrel) fun e a' w' hs=>?_
 obtain⟨st',L',F',hq,hr,hst⟩:=hs
 have key:∀(hq:(match zdX P st' fn.results.toList with
  |some (ds,c)=>c∧Q (one ds) st'.H st'.n
  |none=>False)),a'.defers=[]∧∃v,(results fn a'.tmps).run P w'= .ok v w'∧∃v0 d H' n' L' F',Ending.returned v= .returned v0∧Q d H' n'∧OkW G w' L' F' (Ub n') H'∧zak w' L' F' (Ub n') d v0∧zbL H w L F (Ub n) H' w' L' F' (Ub n'):=by
  intro hq
  split at hq
  ·rename_i ds c' hds
   obtain⟨v,g1,g2⟩:=zpz hr hds hq.1
   exact⟨hr.nd,v,g1,v,one ds,st'.H,st'.n,L',F',rfl,hq.2,hr.ok,g2,hst⟩
  ·exact hq.elim
 cases e with
 |normal=>exact key hq
 |ret=>exact key hq
 |_=>exact hq.elim
end
end Go.Abs
namespace Go.Abs
open Go
def D.val (d:D):Option D:=
 match d with
 | .tup ds=>(D.toFDs ds).map fun xs=> .tup (xs.map .fz)
 |d=>d.toFD.map .fz
def H0:zas:=fun _=>none
section
variable {P:Program} {G:Nat→List FD} {N:Nat} {st:St} {w:World} {L L':Loc} {F:Nat→Nat→Prop} {U U':Id→Prop}
theorem zap.of_toFDs {ds:List D}{vs:List Value}{xs:List FD}(h:zap w L F U ds vs)(e:D.toFDs ds=some xs):zap w L' F U' (xs.map .fz) vs:=by
 obtain⟨h1,h2⟩:=zap.toFDs ds vs xs h e
 rw[zap.iff]
 refine⟨by simpa using h1,fun j hj=>?_⟩
 have hj':j<xs.length:=by simpa using hj
 rw[zb0 _ _ hj']
 simpa only[zak]using h2 j hj'
theorem zak.val {d r:D}{v:Value}(h:zak w L F U d v)(e:D.val d=some r):zak w L' F U' r v:=by
 unfold D.val at e
 split at e
 ·rename_i ds
  simp only[Option.map_eq_some_iff]at e
  obtain⟨xs,e,rfl⟩:=e
  simp only[zak]at h ⊢
  obtain⟨vs,rfl,h⟩:=h
  exact⟨vs,rfl,h.of_toFDs e⟩
 ·simp only[Option.map_eq_some_iff]at e
  obtain⟨x,e,rfl⟩:=e
  simpa only[zak]using zak.toFD _ _ _ h e
theorem zot {f:FuncId}{args:List D}{xs:List FD}{r:D}{H:zas}{n:Nat}(ha:D.toFDs args=some xs)
  (h:zav P G f (xs.map .fz) H0 0 (fun d _ _=>D.val d=some r)):zav P G f args H n (fun d H' n'=>d=r∧H'=H∧n'=n):=by
 refine⟨h.1,fun w L F vs hok hvs=>?_⟩
 refine(h.2 w L F vs ⟨hok.fb,(fun _ _ h=>nomatch h),(fun _ _ _ _ h=>nomatch h),hok.glob⟩ (hvs.of_toFDs ha)).mono fun e w' he=>?_
 obtain⟨v,d,H',n',L',F',rfl,hd,g1,g2,g3⟩:=he
 have nb:∀b,¬Blk H0 L b:=by rintro b ⟨_,_,h,_⟩;cases h
 have no:∀b k,¬Own H0 L b k:=by rintro b k ⟨_,_,h,_⟩;cases h
 have ext:Ext w L F (Ub n) w' L F' (Ub n):=⟨fun _ h=>h,fun _ _=>rfl,g3.f,fun b k hb=>g3.keepc b k (hok.fb b k hb) (no b k),g3.size,g3.shape⟩
 refine⟨v,r,H,n,L,F',rfl,⟨rfl,rfl,rfl⟩,⟨g1.fb,?_,hok.inj,g1.glob⟩,g2.val hd,?_⟩
 ·intro id o ho
  obtain⟨h1,h2⟩:=hok.live id o ho
  refine⟨h1,h2.ext ext h1 fun hv=>?_⟩
  have hlt:=hok.blk_lt ho hv
  refine⟨g3.keep _ hlt (nb _),fun k hk hF=>?_⟩
  rcases g3.fnew _ _ hF with h|h|h
  ·exact(zaC h2 hv).1 k hk h
  ·omega
  ·exact no _ _ h
 ·refine⟨fun _ h=>h,fun _ _=>rfl,g3.f,g3.size,fun b hb _=>g3.keep b hb (nb b),fun b k hb _=>g3.keepc b k hb (no b k),g3.shape,fun b k hb=>?_,fun b k hb=> .inr hb,g3.os,g3.tape,g3.output,g3.drawn⟩
  rcases g3.fnew b k hb with h|h|h
  ·exact .inl h
  ·exact .inr (.inl h)
  ·exact absurd h (no b k)
theorem zaP {f:FuncId}{args:List D}{H:zas}{n:Nat}{Q Q':D→zas→Nat→Prop}(h:zav P G f args H n Q)(hq:∀d H n,Q d H n→Q' d H n):zav P G f args H n Q':=
 ⟨h.1,fun w L F vs hok hvs=>(h.2 w L F vs hok hvs).mono fun _ _ ⟨v,d,H',n',L',F',e,hQ,g⟩=>⟨v,d,H',n',L',F',e,hq _ _ _ hQ,g⟩⟩
abbrev Tbl:=FuncId→Option (List FD→Option (D×Prop))
def zan (P:Program)(G:Nat→List FD)(T:Tbl):Prop:=
 ∀f t xs r c,T f=some t→t xs=some (r,c)→c→zav P G f (xs.map .fz) H0 0 (fun d _ _=>D.val d=some r)
def znJ (T:Tbl)(f:D)(args:List D):Option (D×Prop):=
 match f with
 | .fn g caps=>match T g,D.toFDs (args++caps)with
  |some t,some xs=>t xs
  |_,_=>none
 |_=>none
def zb5 (P:Program)(t:TypeId)(n:Nat)(is:List Nat)(ds:List D):Option (D×Prop):=
 match zau P t,D.toFDs ds with
 |some te,some xs=>some (.full xs,is=List.range n∧zbi xs te.size∧n*te.size≤2^24∧n≤zaZ)
 |_,_=>none
def zlc:D→Option (List FD)
 | .full xs=>some xs
 |_=>none
def zr5 (d:D):Option (List FD):=
 match d.toFD with
 |some (.sl ys)=>some ys
 |_=>none
def zeE (P:Program)(t u:TypeId)(x y:D):Option (D×Prop):=
 match zau P t,zaq P u,zlc x,zr5 y with
 |some te,some ui,some xs,some ys=>if ui.isSlice then some (.fz (.sl (xs++ys)),zbi xs te.size∧zbi ys te.size∧fits (xs.length+ys.length) te.bytes)else none
 |_,_,_,_=>none
def zbg (P:Program)(T:Tbl)(o:Oper)(ev:Operand→D)(H:zas):Option (D×Prop):=
 match za7 P o ev H with
 |some r=>some r
 |none=>
  match o.op with
  | .buildSlice t n ps=>zb5 P t n (ps.toList.map (·.1)) (ps.toList.map fun p=>ev p.2)
  | .call c=>
   match c.callee with
   | .value f=>znJ T (ev f) (c.args.toList.map ev)
   | .builtin .append=>
    match c.args.toList,c.argTypes.toList with
    |[x,y],[t,u]=>zeE P t u (ev x) (ev y)
    |_,_=>none
   |_=>none
  |_=>none
theorem zjW {H:zas}{te:TI}{y:D}{ys:List FD}(h:zr5 y=some ys):∃src c,zbm H te y=some (ys.length,src,c):=by
 unfold zr5 at h
 split at h
 ·rename_i zs hz
  obtain rfl:=Option.some.inj h
  cases y<;>simp[D.toFD]at hz
  ·subst hz;exact⟨_,_,rfl⟩
  ·subst hz;exact⟨_,_,rfl⟩
  ·subst hz;exact⟨_,_,rfl⟩
 ·cases h
theorem zk8 {T:Tbl}(hT:zan P G T){o:Oper}{tag0:Nat}{K:St→Prop}{d:D}{c:Prop}(hd:zaS N o.dst=true)(h:zbg P T o (st.ev G) st.H=some (d,c))(hc:c)(hK:K (st.put o.dst d)):
  zcN P G N tag0 o st K:=by
 unfold zbg at h
 unfold zcN
 split at h
 ·rename_i r hr
  rw[hr]
  obtain⟨d',c'⟩:=r
  simp only[Option.some.injEq,Prod.mk.injEq]at h
  obtain⟨rfl,rfl⟩:=h
  exact⟨hd,hc,hK⟩
 ·rename_i hn
  rw[hn]
  refine⟨hd,?_⟩
  split at h
  ·rename_i t n ps heq
   rw[heq]
   simp only[zb5]at h
   simp only
   split at h
   ·rename_i te xs h1 h2
    rw[h1,h2]
    simp only[Option.some.injEq,Prod.mk.injEq]at h
    obtain⟨rfl,rfl⟩:=h
    exact .inl ⟨hc.1,hc.2.1,hc.2.2.1,hc.2.2.2,hK⟩
   ·cases h
  ·rename_i cl heq
   rw[heq]
   simp only
   split at h
   ·rename_i f hcal
    rw[hcal]
    simp only
    unfold znJ at h
    split at h
    ·rename_i g caps hf
     rw[hf]
     simp only
     split at h
     ·rename_i t xs ht hxs
      refine zaP (zot hxs (hT _ _ _ _ _ ht h hc)) ?_
      rintro d' H' n' ⟨rfl,rfl,rfl⟩
      exact hK
     ·cases h
    ·cases h
   ·rename_i hcal
    rw[hcal]
    simp only
    split at h
    ·rename_i x y t u ha ht
     rw[ha,ht]
     simp only
     unfold zeE at h
     split at h
     ·rename_i te ui xs ys h1 h2 h3 h4
      split at h
      ·rename_i hs
       simp only[Option.some.injEq,Prod.mk.injEq]at h
       obtain⟨rfl,rfl⟩:=h
       unfold zcH
       rw[h1,h2]
       simp only
       have hx:st.ev G x= .full xs:=by
        revert h3;cases st.ev G x<;>simp[zlc]
       obtain⟨src,cc,hsrc⟩:=zjW (H:=st.H) (te:=te) h4
       rw[hs,hsrc,hx]
       simp only
       refine .inr (.inl ⟨ys,?_,hc.1,hc.2.1,hc.2.2,hK⟩)
       unfold zr5 at h4
       split at h4
       ·rename_i zs hz;rw[hz];rw[Option.some.inj h4]
       ·cases h4
      ·cases h
     ·cases h
    ·cases h
   ·cases h
  ·cases h
end
end Go.Abs
namespace Go.Abs
open Go
def frL:List (Nat×D)→Nat→D
 |[],_=> .junk
 |(k,d)::l,t=>if t=k then d else frL l t
def Req (c k:Prop):Prop:=c∧k
def zdn (b:Bool)(x y:Prop):Prop:=(b=true→x)∧(b=false→y)
def Bi {α:Type}(r:Option α)(k:α→Prop):Prop:=match r with|some a=>k a|none=>False
def ob {α β:Type}(r:Option α)(k:α→Option β):Option β:=match r with|some a=>k a|none=>none
def Chk (b:Bool)(k:Prop):Prop:=b=true∧k
theorem zsT {k:Prop}:Req True k=k:=by simp[Req]
theorem zsP {k:Prop}:Chk true k=k:=by simp[Chk]
theorem zoo {x y:Prop}:zdn true x y=x:=by simp[zdn]
theorem zme {x y:Prop}:zdn false x y=y:=by simp[zdn]
theorem zjE {α β:Type}{a:α}{k:α→Option β}:ob (some a) k=k a:=rfl
theorem ztz {k t:Nat}{d:D}{l:List (Nat×D)}:frL ((k,d)::l) t=if t=k then d else frL l t:=rfl
theorem zvT {t:Nat}:frL [] t= .junk:=rfl
theorem Req.i {c k:Prop}(h:c)(h':c→k):Req c k:=⟨h,h' h⟩
theorem zdn.i {b:Bool}{x y:Prop}(h:b=true→x)(h':b=false→y):zdn b x y:=⟨h,h'⟩
theorem zt1 {l:List (Nat×D)}{H:zas}{n t:Nat}{d:D}:St.put ⟨frL l,H,n⟩ (some t) d=⟨frL ((t,d)::l),H,n⟩:=by
 simp only[St.put,St.mk.injEq,and_true]
 funext j
 simp only[upd,frL]
theorem zt0 {l:List (Nat×D)}{H:zas}{n:Nat}{d:D}:St.put ⟨frL l,H,n⟩ none d=⟨frL l,H,n⟩:=rfl
theorem zzr {l:List (Nat×D)}{H:zas}{n:Nat}{id:Id}{o:O}{dst:Option Tmp}{d:D}:St.new ⟨frL l,H,n⟩ id o dst d=
  {St.put ⟨frL l,H,n⟩ dst d with H:=zaM H id (some o),n:=n+1}:=rfl
theorem zGW {fr:Nat→D}{H:zas}{n:Nat}:St.H ⟨fr,H,n⟩=H:=rfl
theorem zGX {fr:Nat→D}{H:zas}{n:Nat}:St.n ⟨fr,H,n⟩=n:=rfl
theorem zDg {fr:Nat→D}{H:zas}{n:Nat}:St.fr ⟨fr,H,n⟩=fr:=rfl
theorem zyp {G:Nat→List FD}{fr:Nat→D}{H:zas}{n t:Nat}:St.ev G ⟨fr,H,n⟩ (.tmp t)=fr t:=rfl
theorem ztv {G:Nat→List FD}{st:St}{v:Value}:St.ev G st (.const v)=zfn v:=rfl
theorem zvL {G:Nat→List FD}{st:St}{f:FuncId}:St.ev G st (.func f)= .fn f []:=rfl
theorem zmu {b:Bool}:zfn (.bool b)= .fz (.b b):=rfl
theorem zoJ {k:IntKind}{n:Int}:zfn (.int k n)=if zz3 k n then .fz (.i k n)else .junk:=rfl
theorem zjk {s:ByteArray}:zfn (.string s)=if s.data.toList.length≤1000000 then .fz (.s s.data.toList)else .junk:=rfl
theorem zoK:zfn (.slice none 0 0)= .full []:=rfl
theorem zmv:zfn .nilFunc= .fz .nilf:=rfl
theorem zul {H:zas}{i j:Id}{o:Option O}:zaM H i o j=if j=i then o else H j:=rfl
theorem zsw {H:zas}{i:Id}{o o':Option O}:zaM (zaM H i o) i o'=zaM H i o':=by
 funext j;simp only[zaM];split<;>rfl
theorem zoR {N t:Nat}:zaS N (some t)=decide (t<N):=rfl
theorem zoQ {N:Nat}:zaS N none=true:=rfl
section
variable {P:Program} {H:zas} {t u:TypeId} {x y i:D}
def zxH (ti:TI)(H:zas):D→Option (D×Prop)
 | .rp xs=>some (if ti.agg then .fz (.agg (xs.take ti.size))else .fz (xs.getD 0 .nilf),ti.size≤xs.length∧(ti.agg=false→ti.size=1))
 | .ptr id k=>ob (H id) fun o=>some (if ti.agg then .agg ((o.cells.drop k).take ti.size)else o.cells.getD k .junk,
     k+ti.size≤o.cells.length∧o.virt=false∧(ti.agg=false→ti.size=1))
 |_=>none
theorem zhq:zeh P H t x=ob (zaq P t) fun ti=>zxH ti H x:=by
 unfold zeh ob
 cases zaq P t with
 |none=>rfl
 |some ti=>
  cases x<;>try rfl
  rename_i id k
  simp only[zxH,ob]
  cases H id<;>rfl
def faD (off size:Nat):D→Option (D×Prop)
 | .ptr id k=>some (.ptr id (k+off),size≠0)
 | .rp xs=>some (.rp (xs.drop off),size≠0)
 |_=>none
def fieldsOf:Und→Nat→Option (Nat×TypeId)
 | .struct fs,i=>fs[i]?
 |_,_=>none
theorem zic {i:Nat}:zbF P t x i=ob (zaq P t) fun ti=>ob (fieldsOf ti.und i) fun f=>ob (zaq P f.2) fun fi=>faD f.1 fi.size x:=by
 unfold zbF ob
 cases zaq P t with
 |none=>rfl
 |some ti=>
  obtain⟨_,_,_,und,_,_,_⟩:=ti
  cases und<;>try rfl
  rename_i fs
  simp only[fieldsOf]
  cases fs[i]? with
  |none=>rfl
  |some f=>
   obtain⟨off,ft⟩:=f
   simp only
   cases zaq P ft with
   |none=>rfl
   |some fi=>cases x<;>rfl
def fD (off size:Nat)(agg:Bool):D→Option (D×Prop)
 | .agg ds=>some (if agg then .agg ((ds.drop off).take size)else ds.getD off .junk,off+size≤ds.length∧(agg=false→size=1))
 | .fz (.agg ds)=>some (if agg then .fz (.agg ((ds.drop off).take size))else .fz (ds.getD off .nilf),off+size≤ds.length∧(agg=false→size=1))
 |_=>none
theorem zo0 {i:Nat}:zee P t x i=ob (zaq P t) fun ti=>ob (fieldsOf ti.und i) fun f=>ob (zaq P f.2) fun fi=>fD f.1 fi.size fi.agg x:=by
 unfold zee ob
 cases zaq P t with
 |none=>rfl
 |some ti=>
  obtain⟨_,_,_,und,_,_,_⟩:=ti
  cases und<;>try rfl
  rename_i fs
  simp only[fieldsOf]
  cases fs[i]? with
  |none=>rfl
  |some f=>
   obtain⟨off,ft⟩:=f
   simp only
   cases zaq P ft with
   |none=>rfl
   |some fi=>
    cases x<;>try rfl
    rename_i z
    cases z<;>rfl
def zqO:Und→Option TypeId
 | .slice e=>some e
 |_=>none
theorem zqP:zau P t=ob (zaq P t) fun ti=>ob (zqO ti.und) fun e=>zaq P e:=by
 unfold zau ob
 cases zaq P t with
 |none=>rfl
 |some ti=>
  obtain⟨_,_,_,und,_,_,_⟩:=ti
  cases und<;>rfl
def iaD (size:Nat)(x y:D):Option (D×Prop):=
 match x,y with
 | .fz (.sl xs),.fz (.i _ n)=>some (.rp (xs.getD n.toNat .nilf).cells,0≤n∧n<xs.length∧(xs.getD n.toNat .nilf).cells.length=size)
 | .full xs,.fz (.i _ n)=>some (.rp (xs.getD n.toNat .nilf).cells,0≤n∧n<xs.length∧(xs.getD n.toNat .nilf).cells.length=size)
 | .ow _ _ xs,.fz (.i _ n)=>some (.rp (xs.getD n.toNat .nilf).cells,0≤n∧n<xs.length∧(xs.getD n.toNat .nilf).cells.length=size)
 | .arr id es s len,.fz (.i _ n)=>some (.ptr id (s+n.toNat*es),0≤n∧n<len∧es=size)
 |_,_=>none
theorem zie:zbG P t x y=ob (zau P t) fun te=>iaD te.size x y:=by
 unfold zbG ob
 cases zau P t with
 |none=>rfl
 |some te=>
  have key:∀z:FD,(∀k n,z≠ .i k n)→iaD te.size x (.fz z)=none:=by
   intro z hz
   cases z<;>first|exact absurd rfl (hz _ _)|(cases x<;>(try rfl)<;>rename_i q<;>cases q<;>rfl)
  cases y with
  |fz z=>
   cases z with
   |i k n=>cases x<;>(try rfl)<;>rename_i q<;>cases q<;>rfl
   |_=>exact(key _ (by simp)).symm
  |_=>cases x<;>(try rfl)<;>rename_i q<;>cases q<;>rfl
def zwk (str slice:Bool):D→Option (D×Prop)
 | .fz (.s l)=>if str then some (.fz (.i .i64 l.length),True)else none
 | .fz (.sl xs)=>if slice then some (.fz (.i .i64 xs.length),True)else none
 | .full xs=>if slice then some (.fz (.i .i64 xs.length),True)else none
 | .ow _ _ xs=>if slice then some (.fz (.i .i64 xs.length),True)else none
 | .arr _ _ _ len=>if slice then some (.fz (.i .i64 len),True)else none
 |_=>none
theorem ztr:zk5 P t x=ob (zaq P t) fun ti=>zwk ti.isStr ti.isSlice x:=by
 unfold zk5 ob
 cases zaq P t with
 |none=>cases x<;>(try rfl)<;>rename_i z<;>cases z<;>rfl
 |some ti=>cases x<;>(try rfl)<;>rename_i z<;>cases z<;>rfl
theorem zo3 {l:List UInt8}{k:IntKind}{n:Int}:zeg P t (.fz (.s l)) (.fz (.i k n))=ob (zaq P t) fun ti=>if ti.isStr then some (.fz (.i .u8 ((l.getD n.toNat 0).toNat:Int)),0≤n∧n<l.length)else none:=by
 unfold zeg ob;cases zaq P t<;>rfl
theorem zec {te:TI}(h:zau P t=some te):∃ti,zaq P t=some ti:=by
 unfold zau at h
 cases ht:zaq P t with
 |none=>rw[ht]at h;cases h
 |some ti=>exact⟨ti,rfl⟩
theorem zmC {l:List UInt8}{lo hi:Option D}:zaF P t (.fz (.s l)) lo hi none=ob (zaq P t) fun ti=>ob (zbw lo) fun a=>ob (zaT l.length hi) fun b=>
  if ti.isStr then some (.fz (.s ((l.take b.toNat).drop a.toNat)),0≤a∧a≤b∧b≤l.length)else none:=by
 unfold zaF ob
 cases zaq P t with
 |none=>rfl
 |some ti=>
  simp only
  cases zbw lo<;>cases zaT l.length hi<;>simp
theorem zo7 {xs:List FD}{lo hi:Option D}:zaF P t (.fz (.sl xs)) lo hi none=ob (zau P t) fun te=>ob (zbw lo) fun a=>ob (zaT xs.length hi) fun b=>
  some (.fz (.sl (zbo xs a b)),0≤a∧a≤b∧b≤xs.length∧(a=0∨a=b∨(xs.getD a.toNat .nilf).cells.length=te.size)):=by
 unfold zaF ob
 cases he:zau P t with
 |none=>cases zaq P t<;>rfl
 |some te=>
  obtain⟨ti,ht⟩:=zec he
  rw[ht]
  simp only
  cases zbw lo<;>cases zaT xs.length hi<;>rfl
theorem zmB {xs:List FD}{lo:Option D}{hi:D}{k:IntKind}{m:Int}:zaF P t (.fz (.sl xs)) lo (some hi) (some (.fz (.i k m)))=ob (zau P t) fun te=>ob (zbw lo) fun a=>ob (zaT xs.length (some hi)) fun b=>
  some (.full (zbo xs a b),0≤a∧a≤b∧b≤xs.length∧m=b∧(a=0∨a=b∨(xs.getD a.toNat .nilf).cells.length=te.size)):=by
 unfold zaF ob
 cases he:zau P t with
 |none=>cases zaq P t<;>rfl
 |some te=>
  obtain⟨ti,ht⟩:=zec he
  rw[ht]
  simp only
  cases zbw lo<;>cases zaT xs.length (some hi)<;>rfl
theorem zo6 {oid:Id}{oes:Nat}{xs:List FD}{lo hi:Option D}:zaF P t (.ow oid oes xs) lo hi none=ob (zau P t) fun te=>ob (zbw lo) fun a=>ob (zaT xs.length hi) fun b=>
  some (.fz (.sl (zbo xs a b)),0≤a∧a≤b∧b≤xs.length∧(a=0∨a=b∨(xs.getD a.toNat .nilf).cells.length=te.size)):=by
 unfold zaF ob
 cases he:zau P t with
 |none=>cases zaq P t<;>rfl
 |some te=>
  obtain⟨ti,ht⟩:=zec he
  rw[ht]
  simp only
  cases zbw lo<;>cases zaT xs.length hi<;>rfl
theorem zmA {oid:Id}{oes:Nat}{xs:List FD}{lo:Option D}{hi:D}{k:IntKind}{m:Int}:zaF P t (.ow oid oes xs) lo (some hi) (some (.fz (.i k m)))=ob (zau P t) fun te=>ob (zbw lo) fun a=>ob (zaT xs.length (some hi)) fun b=>
  some (.full (zbo xs a b),0≤a∧a≤b∧b≤xs.length∧m=b∧(a=0∨a=b∨(xs.getD a.toNat .nilf).cells.length=te.size)):=by
 unfold zaF ob
 cases he:zau P t with
 |none=>cases zaq P t<;>rfl
 |some te=>
  obtain⟨ti,ht⟩:=zec he
  rw[ht]
  simp only
  cases zbw lo<;>cases zaT xs.length (some hi)<;>rfl
theorem zk7 {xs:List FD}{lo:Option D}:zaF P t (.full xs) lo none none=ob (zau P t) fun te=>ob (zbw lo) fun a=>
  some (.full (zbo xs a xs.length),0≤a∧a≤xs.length∧(a=0∨a=xs.length∨(xs.getD a.toNat .nilf).cells.length=te.size)):=by
 unfold zaF ob
 cases he:zau P t with
 |none=>cases zaq P t<;>rfl
 |some te=>
  obtain⟨ti,ht⟩:=zec he
  rw[ht]
  simp only
  cases zbw lo<;>rfl
theorem zjr {xs:List FD}{lo:Option D}{hi:D}:zaF P t (.full xs) lo (some hi) none=ob (zau P t) fun te=>ob (zbw lo) fun a=>ob (zaT xs.length (some hi)) fun b=>
  some (.fz (.sl (zbo xs a b)),0≤a∧a≤b∧b≤xs.length∧(a=0∨a=b∨(xs.getD a.toNat .nilf).cells.length=te.size)):=by
 unfold zaF ob
 cases he:zau P t with
 |none=>cases zaq P t<;>rfl
 |some te=>
  obtain⟨ti,ht⟩:=zec he
  rw[ht]
  simp only
  cases zbw lo<;>cases zaT xs.length (some hi)<;>rfl
theorem zjq {xs:List FD}{lo:Option D}{hi:D}{k:IntKind}{m:Int}:zaF P t (.full xs) lo (some hi) (some (.fz (.i k m)))=ob (zau P t) fun te=>ob (zbw lo) fun a=>ob (zaT xs.length (some hi)) fun b=>
  some (.full (zbo xs a b),0≤a∧a≤b∧b≤xs.length∧m=b∧(a=0∨a=b∨(xs.getD a.toNat .nilf).cells.length=te.size)):=by
 unfold zaF ob
 cases he:zau P t with
 |none=>cases zaq P t<;>rfl
 |some te=>
  obtain⟨ti,ht⟩:=zec he
  rw[ht]
  simp only
  cases zbw lo<;>cases zaT xs.length (some hi)<;>rfl
theorem zmz {id:Id}{es s len:Nat}{lo hi:Option D}:zaF P t (.arr id es s len) lo hi none=ob (zau P t) fun te=>ob (zbw lo) fun a=>ob (zaT len hi) fun b=>
  some (.arr id es (s+a.toNat*es) (b-a).toNat,0≤a∧a≤b∧b≤len∧es=te.size):=by
 unfold zaF ob
 cases he:zau P t with
 |none=>cases zaq P t<;>rfl
 |some te=>
  obtain⟨ti,ht⟩:=zec he
  rw[ht]
  simp only
  cases zbw lo<;>cases zaT len hi<;>rfl
def zoE (op:BinOp)(r:Bool)(c:Prop):Option (D×Prop):=
 match op with
 | .eql=>some (.fz (.b r),c)
 | .neq=>some (.fz (.b (!r)),c)
 |_=>none
theorem ztk {op:BinOp}{k k':IntKind}{a b:Int}:zc5 P op t (.fz (.i k a)) (.fz (.i k' b))=zdd op k k' a b:=rfl
theorem ztm {op:BinOp}{a b:List UInt8}:zc5 P op t (.fz (.s a)) (.fz (.s b))=zf1 op a b:=rfl
theorem zth {op:BinOp}{a b:Bool}:zc5 P op t (.fz (.b a)) (.fz (.b b))=ob (zaq P t) fun ti=>if ti.isBool then zoE op (a==b) True else none:=by
 unfold zc5 ob;cases zaq P t<;>rfl
theorem zcR {op:BinOp}{xs ys:List FD}:(match zaq P t with
   |some ti=>
    match za1 ti.fund xs ys with
    |some (r,c)=>if ti.eqok then
      match op with
      | .eql=>some (D.fz (.b r),c)
      | .neq=>some (.fz (.b (!r)),c)
      |_=>none
     else none
    |none=>none
   |none=>none)=ob (zaq P t) fun ti=>ob (za1 ti.fund xs ys) fun rc=>if ti.eqok then zoE op rc.1 rc.2 else none:=by
 unfold ob
 cases zaq P t with
 |none=>rfl
 |some ti=>simp only;cases za1 ti.fund xs ys<;>rfl
theorem ztj {op:BinOp}{xs ys:List FD}:zc5 P op t (.fz (.agg xs)) (.fz (.agg ys))=ob (zaq P t) fun ti=>ob (za1 ti.fund xs ys) fun rc=>if ti.eqok then zoE op rc.1 rc.2 else none:=by
 rw[←zcR];rfl
theorem ztg {op:BinOp}{ds:List D}{ys:List FD}:zc5 P op t (.agg ds) (.fz (.agg ys))=ob (D.toFDs ds) fun xs=>ob (zaq P t) fun ti=>ob (za1 ti.fund xs ys) fun rc=>if ti.eqok then zoE op rc.1 rc.2 else none:=by
 simp only[zc5,D.toFD]
 cases h:D.toFDs ds with
 |none=>rfl
 |some xs=>simp only[Option.map_some,zjE];exact zcR
theorem zti {op:BinOp}{ds:List D}{xs:List FD}:zc5 P op t (.fz (.agg xs)) (.agg ds)=ob (D.toFDs ds) fun ys=>ob (zaq P t) fun ti=>ob (za1 ti.fund xs ys) fun rc=>if ti.eqok then zoE op rc.1 rc.2 else none:=by
 simp only[zc5,D.toFD]
 cases h:D.toFDs ds with
 |none=>rfl
 |some xs=>simp only[Option.map_some,zjE];exact zcR
theorem ztf {op:BinOp}{ds es:List D}:zc5 P op t (.agg ds) (.agg es)=ob (D.toFDs ds) fun xs=>ob (D.toFDs es) fun ys=>ob (zaq P t) fun ti=>ob (za1 ti.fund xs ys) fun rc=>if ti.eqok then zoE op rc.1 rc.2 else none:=by
 simp only[zc5,D.toFD]
 cases h:D.toFDs ds with
 |none=>rfl
 |some xs=>
  simp only[Option.map_some,zjE]
  cases h:D.toFDs es with
  |none=>rfl
  |some xs=>simp only[Option.map_some,zjE];exact zcR
theorem zto {s:TypeId}{k:IntKind}{n:Int}:zdi P s t (.fz (.i k n))=ob (zaq P s) fun _=>ob (zaq P t) fun ti=>ob ti.intK fun k=>some (.fz (.i k n),inK k n):=by
 unfold zdi ob
 cases zaq P s with
 |none=>rfl
 |some si=>
  cases zaq P t with
  |none=>rfl
  |some ti=>simp only;cases ti.intK<;>rfl
theorem ztn {s:TypeId}{n:Int}:zdi P s t (.full [.i .u8 n])=ob (zaq P s) fun _=>ob (zaq P t) fun ti=>ob (zau P s) fun te=>ob te.intK fun k=>if k= .u8 then(if ti.isStr then some (.fz (.s [UInt8.ofNat n.toNat]),True)else none)else none:=by
 unfold zdi ob
 cases zaq P s with
 |none=>rfl
 |some si=>
  cases zaq P t with
  |none=>rfl
  |some ti=>
   simp only
   cases zau P s with
   |none=>rfl
   |some te=>
    simp only[Option.bind_some]
    cases te.intK with
    |none=>rfl
    |some k=>cases k<;>rfl
theorem ztp {s:TypeId}{l:List UInt8}:zdi P s t (.fz (.s l))=ob (zaq P s) fun si=>ob (zaq P t) fun ti=>if si.isStr&&ti.isStr then some (.fz (.s l),True)else none:=by
 unfold zdi ob
 cases zaq P s<;>cases zaq P t<;>rfl
def zgU:Und→Option (List (Nat×TypeId))
 | .struct fs=>some fs
 |_=>none
theorem zmx {fs:List (Nat×TypeId)}{cells:List D}{i:Nat}{d:D}{rest:List (Nat×D)}:zc7 P fs cells ((i,d)::rest)=
  ob fs[i]? fun f=>ob (zaq P f.2) fun fi=>ob (zc7 P fs (zcT cells f.1 d.cs) rest) fun r=>some (r.1,(d.cs.length=fi.size∧f.1+fi.size≤cells.length)∧r.2):=by
 simp only[zc7]
 unfold ob
 cases fs[i]? with
 |none=>rfl
 |some f=>
  obtain⟨off,ft⟩:=f
  simp only
  cases zaq P ft with
  |none=>rfl
  |some fi=>simp only;cases zc7 P fs (zcT cells off d.cs) rest<;>rfl
theorem zo2 {fs:List (Nat×TypeId)}{cells:List D}:zc7 P fs cells []=some (cells,True):=rfl
theorem zoY {ps:List (Nat×D)}:zed P t ps=ob (zaq P t) fun ti=>ob (zgU ti.und) fun fs=>if fs.all (fun p=>(zaq P p.2).isSome)then ob (zc7 P fs ti.zero ps) fun r=>some (.agg r.1,r.2)else none:=by
 unfold zed ob
 cases zaq P t with
 |none=>rfl
 |some ti=>
  obtain⟨_,_,z,und,_,_,_⟩:=ti
  cases und<;>try rfl
  rename_i fs
  simp only[zgU]
  split
  ·cases zc7 P fs z ps<;>rfl
  ·rfl
end
end Go.Abs
namespace Go.Abs
open Go
def Vv (N:Nat)(r:Option (D×Prop))(st:St)(dst:Option Tmp)(K:St→Prop):Prop:=
 Bi r fun dc=>Chk (zaS N dst) (Req dc.2 (K (st.put dst dc.1)))
def zdF:Operand→Bool
 | .const (.slice none 0 0)=>true
 |_=>false
def zw0 (P:Program)(N:Nat)(op:BinOp)(t:TypeId)(x:D)(st:St)(dst:Option Tmp)(K:St→Prop):Prop:=
 match zau P t,zd4 x,op with
 |some _,some len,.eql=>zaS N dst=true∧∀b,(b=true→len=0)→K (st.put dst (.fz (.b b)))
 |some _,some len,.neq=>zaS N dst=true∧∀b,(b=false→len=0)→K (st.put dst (.fz (.b b)))
 |_,_,_=>False
def ztZ:D→Option (Id×Nat)
 | .ptr id k=>some (id,k)
 |_=>none
def zyr:D→Option (FuncId×List D)
 | .fn f caps=>some (f,caps)
 |_=>none
def zmN:D→Option Int
 | .fz (.i _ n)=>some n
 |_=>none
def zx5 (P:Program)(G:Nat→List FD)(t:TypeId)(a x:Operand)(st:St)(dst:Option Tmp)(K:St→Prop):Prop:=
 Bi (zaq P t) fun ti=>Bi (ztZ (st.ev G a)) fun p=>Bi (st.H p.1) fun o=>
  Req (dst=none∧o.virt=false∧(st.ev G x).known=true∧(st.ev G x).cs.all zcJ=true∧(st.ev G x).cs.length=ti.size∧p.2+ti.size≤o.cells.length)
   (K {st with H:=zaM st.H p.1 (some {o with cells:=zcT o.cells p.2 (st.ev G x).cs})})
def zx6 (P:Program)(G:Nat→List FD)(N:Nat)(g:FuncId)(args:List D)(st:St)(dst:Option Tmp)(K:St→Prop):Option (List FD→Option (D×Prop))→Prop
 |some t=>Bi (D.toFDs args) fun xs=>Vv N (t xs) st dst K
 |none=>Chk (zaS N dst) (zav P G g args st.H st.n fun d H n=>K (({st with H:=H,n:=n}:St).put dst d))
def zvq (te:TI)(s:Nat×List D×Prop)(tag:Nat)(st:St)(dst:Option Tmp)(K:St→Prop):D→Prop
 | .full xs=>Req (s.2.2∧zbi xs te.size∧0<te.size∧(0<s.1∨xs=[])∧fits (xs.length+s.1) te.bytes)
   (K (st.new (tag,st.n) ⟨zag xs++s.2.1,false,(zag xs++s.2.1).isEmpty⟩ dst (.arr (tag,st.n) te.size 0 (xs.length+s.1))))
 | .arr id es b len=>Bi (st.H id) fun o=>Req (s.2.2∧es=te.size∧b+len*te.size≤o.cells.length∧s.2.1.all zcJ=true∧0<te.size∧fits (len+s.1) te.bytes)
   (K ({st with H:=zaM st.H id none}.new (tag,st.n) ⟨(o.cells.drop b).take (len*te.size)++s.2.1,false,o.virt&&((o.cells.drop b).take (len*te.size)++s.2.1).isEmpty⟩ dst (.arr (tag,st.n) te.size 0 (len+s.1))))
 |_=>False
def zuj:List D→Option (List FD)
 |[]=>some []
 | .fz x::ds=>match x with
  | .agg _=>none
  |x=>(zuj ds).map (x::·)
 |_::_=>none
theorem zl2:∀{ds:List D} {ys:List FD},zuj ds=some ys→ds=zag ys∧zbi ys 1∧ds.length=ys.length
 |[],ys,h=>by
  simp only[zuj,Option.some.injEq]at h;subst h
  exact⟨rfl,fun x hx=>by simp at hx,rfl⟩
 | .fz x::ds,ys,h=>by
  cases x<;>simp only[zuj,Option.map_eq_some_iff,reduceCtorEq]at h<;>(obtain⟨zs,h,rfl⟩:=h)<;>(obtain⟨h1,h2,h3⟩:=zl2 h)<;>
   exact⟨by rw[h1];rfl,fun y hy=>(List.mem_cons.1 hy).elim (fun e=>by rw[e];rfl) (h2 y),by simp[h3]⟩
 | .junk::_,_,h| .full _::_,_,h| .rp _::_,_,h| .ptr _ _::_,_,h| .arr _ _ _ _::_,_,h| .ow _ _ _::_,_,h| .fn _ _::_,_,h| .agg _::_,_,h| .tup _::_,_,h=>by simp[zuj]at h
def zsN (H:zas)(te:TI)(y:D):Option (List FD×Prop):=
 match y with
 | .arr id es s len=>ob (H id) fun o=>ob (zuj ((o.cells.drop s).take (len*te.size))) fun ys=>some (ys,te.size=1∧es=te.size∧s+len*te.size≤o.cells.length)
 |y=>ob (zr5 y) fun ys=>some (ys,zbi ys te.size)
theorem zlO {H:zas}{te:TI}{y:D}{ys:List FD}{c:Prop}(h:zsN H te y=some (ys,c))(hc:c):∃cc,zbm H te y=some (ys.length,zag ys,cc)∧cc∧zbi ys te.size:=by
 unfold zsN at h
 split at h
 ·rename_i id es s len
  unfold ob at h
  split at h
  case h_2=>cases h
  rename_i o ho
  dsimp only at h
  split at h
  case h_2=>cases h
  rename_i zs hz
  simp only[Option.some.injEq,Prod.mk.injEq]at h
  obtain⟨rfl,rfl⟩:=h
  obtain⟨h1,h2,h3⟩:=zl2 hz
  obtain⟨c1,c2,c3⟩:=hc
  have hl:zs.length=len:=by
   rw[←h3,List.length_take,List.length_drop,c1];rw[c1]at c3;omega
  refine⟨es=te.size∧s+len*te.size≤o.cells.length,?_,⟨c2,c3⟩,by rw[c1];exact h2⟩
  simp only[zbm,ho]
  rw[h1,hl]
 ·unfold ob at h
  split at h
  case h_2=>cases h
  rename_i zs hz
  simp only[Option.some.injEq,Prod.mk.injEq]at h
  obtain⟨rfl,rfl⟩:=h
  unfold zr5 at hz
  split at hz
  case h_2=>cases hz
  rename_i ws hw
  obtain rfl:=Option.some.inj hz
  cases y<;>simp[D.toFD]at hw
  ·subst hw;exact⟨_,rfl,hc,hc⟩
  ·subst hw;exact⟨_,rfl,hc,hc⟩
  ·subst hw;exact⟨_,rfl,hc,hc⟩
def zx3 (te:TI)(tag:Nat)(om:Bool)(st:St)(dst:Option Tmp)(K:St→Prop)(y:D):D→Prop
 | .ow id es xs=>Bi (zsN st.H te y) fun yc=>Bi (st.H id) fun _=>Req (es=te.size∧zbi xs te.size∧yc.2∧(zag yc.1).all zcJ=true∧fits (xs.length+yc.1.length) te.bytes)
   (K ({st with H:=zaM st.H id none}.new (tag,st.n) tok dst (.ow (tag,st.n) te.size (xs++yc.1))))
 | .full xs=>zdn om (Bi (zsN st.H te y) fun yc=>Req (zbi xs te.size∧yc.2∧fits (xs.length+yc.1.length) te.bytes) (K (st.new (tag,st.n) tok dst (.ow (tag,st.n) te.size (xs++yc.1)))))
   (Bi (zbm st.H te y) fun s=>zvq te s tag st dst K (.full xs))
 | .arr id es b len=>Bi (zbm st.H te y) fun s=>zvq te s tag st dst K (.arr id es b len)
 |_=>False
def zzQ (P:Program)(G:Nat→List FD)(N tag:Nat)(am om:Bool)(args:List Operand)(ts:List TypeId)(st:St)(dst:Option Tmp)(K:St→Prop):Prop:=
 match args,ts with
 |[x,y],[t,u]=>
  if am then Bi (zau P t) fun te=>Bi (zaq P u) fun ui=>Chk (zaS N dst&&ui.isSlice) (zx3 te tag om st dst K (st.ev G y) (st.ev G x))
  else Vv N (zeE P t u (st.ev G x) (st.ev G y)) st dst K
 |_,_=>False
def zp2 (P:Program)(G:Nat→List FD)(T:Tbl)(N tag:Nat)(am om:Bool)(args:Array Operand)(ts:Array TypeId)(st:St)(dst:Option Tmp)(K:St→Prop):Callee→Prop
 | .value f=>Bi (zyr (st.ev G f)) fun gc=>zx6 P G N gc.1 (args.toList.map (st.ev G)++gc.2) st dst K (T gc.1)
 | .builtin .append=>zzQ P G N tag am om args.toList ts.toList st dst K
 | .builtin .len=>Vv N (zaN P .len ts (args.toList.map (st.ev G))) st dst K
 | .builtin .max=>Vv N (zaN P .max ts (args.toList.map (st.ev G))) st dst K
 | .builtin .min=>Vv N (zaN P .min ts (args.toList.map (st.ev G))) st dst K
 |_=>False
def zBm (P:Program)(N tag:Nat)(t:TypeId)(l c:D)(st:St)(dst:Option Tmp)(K:St→Prop):Prop:=
 Bi (zau P t) fun te=>Bi (zmN l) fun n=>Bi (zmN c) fun m=>Chk (zaS N dst) (Req (m=n∧0≤n∧n.toNat≤zaZ∧te.bytes*n≤2^48)
  (K (st.new (tag,st.n) ⟨(List.range (n.toNat*te.size)).map fun j=>te.zero.getD (j % te.size) .junk,false,false⟩ dst (.arr (tag,st.n) te.size 0 n.toNat))))
def zkk (P:Program)(G:Nat→List FD)(N tag:Nat)(t:TypeId)(n:Nat)(ps:List (Nat×Operand))(st:St)(dst:Option Tmp)(K:St→Prop):Prop:=
 Bi (zau P t) fun te=>Chk (zaS N dst&&ps.all fun p=>zun te.size (st.ev G p.2)) (Req (ps.map (·.1)=List.range n∧n≤2^24∧n*te.size≤2^24)
  (K (st.new (tag,st.n) ⟨ps.flatMap fun p=>(st.ev G p.2).cs,false,false⟩ dst (.arr (tag,st.n) te.size 0 n))))
def XO (P:Program)(G:Nat→List FD)(T:Tbl)(N tag0:Nat)(am:Nat→Bool)(st:St)(K:St→Prop)(dst:Option Tmp):Op→Prop
 | .move x=>Chk (zaS N dst) (K (st.put dst (st.ev G x)))
 | .assign x=>Chk (zaS N dst) (K (st.put dst (st.ev G x)))
 | .pick c a b=>Vv N (zfp (st.ev G c) (st.ev G a) (st.ev G b)) st dst K
 | .build t ps=>Chk (ps.toList.all fun p=>(st.ev G p.2).known) (Vv N (zed P t (ps.toList.map fun p=>(p.1,st.ev G p.2))) st dst K)
 | .load t a=>Vv N (zeh P st.H t (st.ev G a)) st dst K
 | .nilCheck x=>Vv N (zmy (st.ev G x)) st dst K
 | .binOp op t x y _=>if zdF y then zw0 P N op t (st.ev G x) st dst K else Vv N (zc5 P op t (st.ev G x) (st.ev G y)) st dst K
 | .unOp op _ x=>Vv N (zvJ op (st.ev G x)) st dst K
 | .convert s t x=>Vv N (zdi P s t (st.ev G x)) st dst K
 | .makeFunc (.func f) first caps=>Chk (first.size==0&&zaS N dst) (K (st.put dst (.fn f (caps.toList.map (st.ev G)))))
 | .slice t x lo hi mx=>Vv N (zaF P t (st.ev G x) (lo.map (st.ev G)) (hi.map (st.ev G)) (mx.map (st.ev G))) st dst K
 | .fieldAddr t x i=>Vv N (zbF P t (st.ev G x) i) st dst K
 | .field t x i=>Vv N (zee P t (st.ev G x) i) st dst K
 | .indexAddr t x i=>Vv N (zbG P t (st.ev G x) (st.ev G i)) st dst K
 | .index t x i=>Vv N (zeg P t (st.ev G x) (st.ev G i)) st dst K
 | .extract x i=>Vv N (zc6 (st.ev G x) i) st dst K
 | .call c=>zp2 P G T N (tag0+dst.getD 0) (am (dst.getD 0)) (am (2000000+dst.getD 0)) c.args c.argTypes st dst K c.callee
 | .alloc e=>Bi (zaq P e) fun ti=>Chk (zaS N dst) (K (st.new (tag0+dst.getD 0,st.n) ⟨ti.zero,true,false⟩ dst (.ptr (tag0+dst.getD 0,st.n) 0)))
 | .box _ x=>Chk (zaS N dst&&(st.ev G x).known) (K (st.new (tag0+dst.getD 0,st.n) ⟨(st.ev G x).cs,true,false⟩ dst (.ptr (tag0+dst.getD 0,st.n) 0)))
 | .makeSlice t l c=>zBm P N (tag0+dst.getD 0) t (st.ev G l) (st.ev G c) st dst K
 | .buildSlice t n ps=>if am (dst.getD 0)then zkk P G N (tag0+dst.getD 0) t n ps.toList st dst K else Vv N (zb5 P t n (ps.toList.map (·.1)) (ps.toList.map fun p=>st.ev G p.2)) st dst K
 | .store t a x=>zx5 P G t a x st dst K
 |_=>False
section
variable {P:Program} {G:Nat→List FD} {T:Tbl} {N tag0:Nat} {am:Nat→Bool} {st:St} {K:St→Prop}
theorem zbB {α:Type}{r:Option α}{k:α→Prop}(h:Bi r k):∃a,r=some a∧k a:=by
 cases r with
 |none=>exact h.elim
 |some a=>exact⟨a,rfl,h⟩
theorem zBl (hT:zan P G T){o:Oper}{r:Option (D×Prop)}(hr:zbg P T o (st.ev G) st.H=r)(h:Vv N r st o.dst K):zcN P G N tag0 o st K:=by
 obtain⟨⟨d,c⟩,rfl,h1,h2,h3⟩:=zbB h
 exact zk8 hT h1 hr h2 h3
theorem zvM {o:Oper}{r:Option (D×Prop)}(hr:za7 P o (st.ev G) st.H=r)(h:Vv N r st o.dst K):∃d c,za7 P o (st.ev G) st.H=some (d,c)∧zaS N o.dst=true∧c∧K (st.put o.dst d):=by
 obtain⟨⟨d,c⟩,rfl,h1,h2,h3⟩:=zbB h
 exact⟨d,c,hr,h1,h2,h3⟩
theorem zi8 {o:Oper}{r:Option (D×Prop)}(hr:za7 P o (st.ev G) st.H=r)(h:Vv N r st o.dst K):zcN P G N tag0 o st K:=by
 obtain⟨d,c,h1,h2,h3,h4⟩:=zvM hr h
 unfold zcN
 rw[h1]
 exact⟨h2,h3,h4⟩
theorem zoX {op:BinOp}{t:TypeId}{x:D}:zc5 P op t x (.full [])=none:=by
 cases x with
 |fz z=>cases z<;>rfl
 |full xs=>rfl
 |ow _ _ _=>rfl
 |agg ds=>
  unfold zc5
  simp only[D.toFD]
  cases D.toFDs ds<;>rfl
 |_=>rfl
theorem zkm (hT:zan P G T):∀(o:Oper),XO P G T N tag0 am st K o.dst o.op→zcN P G N tag0 o st K:=by
 intro o h
 obtain⟨dst,op,ty,pos,after,guard⟩:=o
 cases op with
 |move x=>exact zi8 (r:=some (_,True)) rfl ⟨h.1,trivial,h.2⟩
 |assign x=>exact zi8 (r:=some (_,True)) rfl ⟨h.1,trivial,h.2⟩
 |pick c a b=>exact zi8 rfl h
 |build t ps=>
  obtain⟨h1,h2⟩:=h
  refine zi8 ?_ h2
  simp only[za7]
  rw[if_pos h1]
 |load t a=>exact zi8 rfl h
 |nilCheck x=>exact zi8 rfl h
 |binOp op t x y yt=>
  simp only[XO]at h
  split at h
  ·rename_i hn
   have hy:y= .const (.slice none 0 0):=by
    unfold zdF at hn
    split at hn
    ·rfl
    ·cases hn
   subst hy
   unfold zcN
   have e:za7 P ⟨dst,.binOp op t x (.const (.slice none 0 0)) yt,ty,pos,after,guard⟩ (st.ev G) st.H=none:=zoX
   rw[e]
   unfold zw0 at h
   simp only
   split at h
   ·rename_i h1 h2
    exact⟨h.1,by rw[h1,h2];exact h.2⟩
   ·rename_i h1 h2
    exact⟨h.1,by rw[h1,h2];exact h.2⟩
   ·exact h.elim
  ·exact zi8 rfl h
 |unOp op t x=>exact zi8 rfl h
 |convert s t x=>exact zi8 rfl h
 |makeFunc f first caps=>
  cases f with
  |func f=>
   obtain⟨h1,h2⟩:=h
   simp only[Bool.and_eq_true,beq_iff_eq]at h1
   refine zi8 (r:=some (_,True)) ?_ ⟨h1.2,trivial,h2⟩
   simp only[za7]
   rw[if_pos h1.1]
  |_=>exact h.elim
 |slice t x lo hi mx=>exact zi8 rfl h
 |fieldAddr t x i=>exact zi8 rfl h
 |field t x i=>exact zi8 rfl h
 |indexAddr t x i=>exact zi8 rfl h
 |index t x i=>exact zi8 rfl h
 |extract x i=>exact zi8 rfl h
 |alloc e=>
  obtain⟨ti,h1,h2,h3⟩:=zbB h
  unfold zcN
  simp only[za7]
  exact⟨h2,by rw[h1];exact h3⟩
 |box e x=>
  obtain⟨h1,h2⟩:=h
  simp only[Bool.and_eq_true]at h1
  unfold zcN
  simp only[za7]
  exact⟨h1.1,h1.2,h2⟩
 |makeSlice t l c=>
  obtain⟨te,h1,h2⟩:=zbB h
  obtain⟨n,h3,h4⟩:=zbB h2
  obtain⟨m,h5,h6,h7,h8⟩:=zbB h4
  unfold zcN
  simp only[za7]
  refine⟨h6,?_⟩
  have e1:∀(d:D) n,zmN d=some n→∃k,d= .fz (.i k n):=by
   intro d n hd
   unfold zmN at hd
   split at hd
   ·exact⟨_,by rw[Option.some.inj hd]⟩
   ·cases hd
  obtain⟨k1,e2⟩:=e1 _ _ h3
  obtain⟨k2,e3⟩:=e1 _ _ h5
  rw[h1,e2,e3]
  exact⟨h7.1,h7.2.1,h7.2.2.1,h7.2.2.2,h8⟩
 |buildSlice t n ps=>
  simp only[XO]at h
  split at h
  ·obtain⟨te,h1,h2,h3,h4⟩:=zbB h
   simp only[Bool.and_eq_true]at h2
   unfold zcN
   simp only[za7]
   refine⟨h2.1,.inr ?_⟩
   rw[h1]
   exact⟨h3.1,h2.2,h3.2.1,h3.2.2,h4⟩
  ·exact zBl hT (o:=⟨dst,.buildSlice t n ps,ty,pos,after,guard⟩) rfl h
 |store t a x=>
  obtain⟨ti,h1,h2⟩:=zbB h
  obtain⟨⟨id,k⟩,h3,h4⟩:=zbB h2
  obtain⟨ob,h5,h6,h7⟩:=zbB h4
  unfold zcN
  simp only[za7]
  have e:st.ev G a= .ptr id k:=by
   unfold ztZ at h3
   split at h3
   ·rename_i hp;rw[hp];simp only[Option.some.injEq,Prod.mk.injEq]at h3;rw[h3.1,h3.2]
   ·cases h3
  have hd:dst=none:=h6.1
  subst hd
  refine⟨rfl,?_⟩
  rw[h1,e]
  simp only
  rw[h5]
  exact⟨trivial,h6.2.1,h6.2.2.1,h6.2.2.2.1,h6.2.2.2.2.1,h6.2.2.2.2.2,h7⟩
 |call c=>
  obtain⟨callee,args,ts⟩:=c
  simp only[XO]at h
  cases callee with
  |value f=>
   obtain⟨⟨g,caps⟩,h1,h2⟩:=zbB h
   have e:st.ev G f= .fn g caps:=by
    unfold zyr at h1
    split at h1
    ·rename_i hp;rw[hp];simp only[Option.some.injEq,Prod.mk.injEq]at h1;rw[h1.1,h1.2]
    ·cases h1
   simp only at h2
   cases ht:T g with
   |some t=>
    rw[ht]at h2
    obtain⟨xs,h3,h4⟩:=zbB h2
    refine zBl hT (o:=⟨dst,.call ⟨.value f,args,ts⟩,ty,pos,after,guard⟩) (r:=t xs) ?_ h4
    simp only[zbg,za7,e,znJ,ht,h3]
   |none=>
    rw[ht]at h2
    unfold zcN
    simp only[za7]
    refine⟨h2.1,?_⟩
    rw[e]
    exact h2.2
  |invoke _ _=>exact h.elim
  |builtin b=>
   cases b with
   |len=>exact zi8 rfl h
   |max=>exact zi8 rfl h
   |min=>exact zi8 rfl h
   |append=>
    simp only[zp2]at h
    unfold zzQ at h
    split at h
    case h_2=>exact h.elim
    rename_i x y t u ha ht
    split at h
    ·obtain⟨te,h1,h2⟩:=zbB h
     obtain⟨ui,h3,h4,h5⟩:=zbB h2
     simp only[Bool.and_eq_true]at h4
     unfold zcN
     have e:za7 P ⟨dst,.call ⟨.builtin .append,args,ts⟩,ty,pos,after,guard⟩ (st.ev G) st.H=none:=by
      simp only[za7,zaN]
     rw[e]
     refine⟨h4.1,?_⟩
     simp only
     rw[ha,ht]
     simp only
     unfold zcH
     rw[h1,h3]
     simp only
     rw[h4.2]
     cases hx:st.ev G x with
     |ow id es xs=>
      rw[hx]at h5
      obtain⟨⟨ys,c⟩,h6,h7⟩:=zbB h5
      obtain⟨ob,h8,h9,h10⟩:=zbB h7
      obtain⟨cc,hsrc,hcc,hll⟩:=zlO h6 h9.2.2.1
      rw[hsrc]
      exact⟨ys,ob,rfl,rfl,hcc,h8,h9.1,h9.2.1,hll,h9.2.2.2.1,h9.2.2.2.2,h10⟩
     |full xs=>
      rw[hx]at h5
      cases hom:am (2000000+dst.getD 0)with
      |true=>
       obtain⟨⟨ys,c⟩,h6,h8,h9⟩:=zbB (h5.1 hom)
       obtain⟨cc,hsrc,hcc,hll⟩:=zlO h6 h8.2.1
       rw[hsrc]
       exact .inr (.inr ⟨ys,rfl,rfl,hcc,h8.1,hll,h8.2.2,h9⟩)
      |false=>
       obtain⟨⟨n,src,cc⟩,h6,h8,h9⟩:=zbB (h5.2 hom)
       rw[h6]
       simp only at h8 ⊢
       exact .inl ⟨h8.1,h8.2.1,h8.2.2.1,h8.2.2.2.1,h8.2.2.2.2,h9⟩
     |arr id es b len=>
      rw[hx]at h5
      obtain⟨⟨n,src,cc⟩,h6,h7⟩:=zbB h5
      obtain⟨ob,h8,h9,h10⟩:=zbB h7
      rw[h6]
      simp only at h9 ⊢
      rw[h8]
      exact⟨h9.1,h9.2.1,h9.2.2.1,h9.2.2.2.1,h9.2.2.2.2.1,h9.2.2.2.2.2,h10⟩
     |_=>rw[hx]at h5;exact h5.elim
    ·refine zBl hT (o:=⟨dst,.call ⟨.builtin .append,args,ts⟩,ty,pos,after,guard⟩) ?_ h
     simp only[zbg,za7,zaN,ha,ht]
   |_=>exact h.elim
 |_=>exact h.elim
def gv2 (want:Bool):D→Option Bool
 | .fz (.b x)=>some (x==want)
 | .tup []=>some false
 |_=>none
def zlf (ops:Array Oper)(fr:Nat→D):Option (Nat×Bool)→Option Bool
 |none=>some true
 |some jw=>ob ((ops[jw.1]?).bind (·.dst)) fun t=>gv2 jw.2 (fr t)
def zkf (P:Program)(G:Nat→List FD)(T:Tbl)(N tag0:Nat)(am:Nat→Bool)(ops:Array Oper):List Oper→(St→Prop)→St→Prop
 |[],K,st=>K st
 |o::os,K,st=>Bi (zlf ops st.fr o.guard) fun b=>zdn b (XO P G T N tag0 am st (zkf P G T N tag0 am ops os K) o.dst o.op)
   (Chk (zaS N o.dst) (zkf P G T N tag0 am ops os K (st.put o.dst (.tup []))))
end
end Go.Abs
namespace Go.Abs
open Go
section
variable {P:Program} {G:Nat→List FD} {T:Tbl} {N tag0:Nat} {am:Nat→Bool} {st:St} {a:Act} {w:World} {L:Loc} {F:Nat→Nat→Prop} {K:St→Prop} {Q:Exit→St→Prop}
theorem zc8 {ops:Array Oper}{o:Oper}{b:Bool}(h:Rel G N st a w L F)(hb:zlf ops st.fr o.guard=some b):Region.wanted o (yielded ops a.tmps)=b:=by
 cases hg:o.guard with
 |none=>
  rw[hg]at hb
  simp only[zlf,Option.some.injEq]at hb
  subst hb
  simp[Region.wanted,hg]
 |some jw=>
  obtain⟨j,want⟩:=jw
  rw[hg]at hb
  simp only[zlf]at hb
  cases ht:(ops[j]?).bind (·.dst)with
  |none=>rw[ht]at hb;cases hb
  |some t=>
   rw[ht]at hb
   simp only[ob]at hb
   unfold gv2 at hb
   split at hb
   ·rename_i x hx
    rw[zsE hg ht hx h (zBJ h hx)]
    exact Option.some.inj hb
   ·rename_i hx
    have h1:=h.fr t
    rw[hx]at h1
    simp only[zak]at h1
    obtain⟨vs,h2,_⟩:=h1
    simp only[Region.wanted,hg,yielded,ht,Option.bind_some]
    rw[←Option.some.inj hb]
    rw[Array.getD_eq_getD_getElem?]at h2
    cases hq:a.tmps[t]? with
    |none=>simp
    |some v=>
     rw[hq]at h2
     simp only[Option.getD_some]at h2
     rw[h2]
     rfl
   ·cases hb
theorem zsg (hT:zan P G T){ops:Array Oper}{Q':Exit→Act→World→Prop}:∀(l:List Oper) (k:Nat),(∀j,l[j]?=ops[k+j]?)→∀(st:St) (a:Act) (w:World) (L:Loc) (F:Nat→Nat→Prop),Rel G N st a w L F→zkf P G T N tag0 am ops l K st→
  (∀a' w',Sat G N st w L F K a' w'→Q' .normal a' w')→wpOps P ops Q' ((List.range l.length).map (k+·)) a w
 |[],k,_,st,a,w,L,F,h,hs,hQ=>by
  simp only[List.length_nil,List.range_zero,List.map_nil,wpOps]
  exact hQ _ _ ⟨st,L,F,hs,h,zbL.refl _ _ _ _ _⟩
 |o::l,k,hl,st,a,w,L,F,h,hs,hQ=>by
  have h0:ops[k]?=some o:=by have:=hl 0;simpa using this.symm
  have hrest:(List.range (o::l).length).map (k+·)=k::(List.range l.length).map (k+1+·):=by
   simp only[List.length_cons,List.range_succ_eq_map,List.map_cons,List.map_map,Nat.add_zero]
   congr 1
   apply List.map_congr_left
   intro j _
   simp;omega
  rw[hrest]
  simp only[wpOps,h0]
  have ih:∀(st1:St) (a1:Act) (w1:World) (L1:Loc) (F1:Nat→Nat→Prop),Rel G N st1 a1 w1 L1 F1→zgB st w L F st1 w1 L1 F1→zkf P G T N tag0 am ops l K st1→wpOps P ops Q' ((List.range l.length).map (k+1+·)) a1 w1:=
   fun st1 a1 w1 L1 F1 hr hst hs'=>zsg hT l (k+1) (fun j=>by have:=hl (j+1);simp at this;rw[this];congr 1;omega) st1 a1 w1 L1 F1 hr hs' (fun a' w' hsat=>hQ _ _ (hsat.trans hst))
  obtain⟨b,hb,h1,h2⟩:=zbB hs
  rw[zc8 h hb]
  cases b with
  |true=>
   simp only[if_true]
   exact .inl (Oper.wp_mono (fun a1 w1 ⟨st1,L1,F1,h1,h2,h3⟩=>ih st1 a1 w1 L1 F1 h2 h3 h1) (zob h (zkm hT o (h1 rfl))))
  |false=>
   simp only[Bool.false_eq_true,if_false]
   obtain⟨hd,hs'⟩:=h2 rfl
   have hH:(st.put o.dst (.tup [])).H=st.H:=by cases o.dst<;>rfl
   have hn:(st.put o.dst (.tup [])).n=st.n:=by cases o.dst<;>rfl
   refine ih (st.put o.dst (.tup [])) (a.put o.dst undef) w L F (h.put (st':=st.put o.dst (.tup [])) (by rw[hH,hn];exact h.ok) (by rw[hH,hn];exact zbL.refl _ _ _ _ _) hd (by simp only[zak];exact⟨[],rfl,trivial⟩) rfl) ?_ hs'
   unfold zgB;rw[hH,hn];exact zbL.refl _ _ _ _ _
theorem zkj (hT:zan P G T){id:Nat}{ops:Array Oper}(h:zkf P G T N tag0 am ops ops.toList (Q .normal) st):W P G N (.region id ops false) Q st:=by
 intro a w L F hr
 refine wp_region ?_
 have:=zsg hT (Q':=fun e a' w'=>Sat G N st w L F (Q e) a' w') ops.toList 0 (by simp) st a w L F hr h (fun _ _ hs=>hs)
 have e:(List.range ops.toList.length).map (0+·)=List.range ops.size:=by
  simp
 rwa [e]at this
end
end Go.Abs
namespace Go.Abs
open Go
section
variable {P:Program} {G:Nat→List FD} {T:Tbl} {N tag0:Nat} {am:Nat→Bool} {st st2:St} {a:Act} {w:World} {L:Loc} {F:Nat→Nat→Prop} {K:St→Prop} {ops:Array Oper}
theorem zhr {o:Oper}{ev ev':Operand→D}{H:zas}(h:∀x∈o.op.operands,ev x=ev' x):za7 P o ev H=za7 P o ev' H:=by
 obtain⟨dst,op,type,pos,after,guard⟩:=o
 cases op<;>simp only[Op.operands]at h<;>simp only[za7]
 case build t ps=>
  have h':∀p∈ps.toList,ev p.2=ev' p.2:=fun p hp=>h p.2 (by simpa using⟨p.1,by simpa using hp⟩)
  have e1:(ps.toList.all fun p=>(ev p.2).known)=(ps.toList.all fun p=>(ev' p.2).known):=by
   rw[Bool.eq_iff_iff,List.all_eq_true,List.all_eq_true]
   exact⟨fun hh p hp=>by rw[←h' p hp];exact hh p hp,fun hh p hp=>by rw[h' p hp];exact hh p hp⟩
  have e2:(ps.toList.map fun p=>(p.1,ev p.2))=(ps.toList.map fun p=>(p.1,ev' p.2)):=List.map_congr_left fun p hp=>by rw[h' p hp]
  rw[e1,e2]
 case makeFunc fn first caps=>
  have e:caps.toList.map ev=caps.toList.map ev':=List.map_congr_left fun x hx=>h x (by simp;exact .inr (by simpa using hx))
  cases fn<;>simp only[e]
 case call c=>
  have e:c.args.toList.map ev=c.args.toList.map ev':=List.map_congr_left fun x hx=>h x (by simp[Call.operands];exact .inr (by simpa using hx))
  cases c.callee<;>simp only[e]
 case slice t x lo hi mx=>cases lo<;>cases hi<;>cases mx<;>simp_all
 all_goals(first|rfl|(simp_all;done))
def zco:Op→Bool
 | .load _ _=>false
 |_=>true
theorem zo8 {o:Oper}{ev:Operand→D}{H H':zas}(h:zco o.op=true):za7 P o ev H=za7 P o ev H':=by
 obtain⟨dst,op,type,pos,after,guard⟩:=o
 cases op<;>first|rfl|(simp[zco]at h;done)|(rename_i f _ _;cases f<;>rfl)
theorem ziA {o:Oper}{ev:Operand→D}{H H':zas}(h:zco o.op=true):zbg P T o ev H=zbg P T o ev H':=by
 unfold zbg
 rw[zo8 h]
theorem znu {c:Call}{ev ev':Operand→D}(h:∀x∈c.operands,ev x=ev' x):c.args.toList.map ev=c.args.toList.map ev':=
 List.map_congr_left fun x hx=>h x (by simp[Call.operands];exact .inr (by simpa using hx))
theorem zmE {o:Oper}{ev ev':Operand→D}{H:zas}(h:∀x∈o.op.operands,ev x=ev' x):zbg P T o ev H=zbg P T o ev' H:=by
 unfold zbg
 rw[zhr h]
 obtain⟨dst,op,type,pos,after,guard⟩:=o
 cases za7 P ⟨dst,op,type,pos,after,guard⟩ ev' H with
 |some r=>rfl
 |none=>
  cases op<;>simp only
  case buildSlice t n ps=>
   have e2:(ps.toList.map fun p=>ev p.2)=(ps.toList.map fun p=>ev' p.2):=List.map_congr_left fun p hp=>h p.2 (by simpa[Op.operands]using⟨p.1,by simpa using hp⟩)
   rw[e2]
  case call c=>
   have e:=znu (c:=c) h
   rw[e]
   cases hc:c.callee with
   |value f=>simp only;rw[h f (by simp[Op.operands,Call.operands,hc])]
   |invoke r m=>rfl
   |builtin b=>
    cases b<;>try rfl
    simp only
    have h':∀x∈c.args.toList,ev x=ev' x:=fun x hx=>h x (by simp[Op.operands,Call.operands,hc];simpa using hx)
    split
    ·rename_i x y t u ha ht
     rw[ha]at h'
     rw[h' x (by simp),h' y (by simp)]
    ·rfl
def zdx (fr:Nat→D)(dst:Option Tmp)(e:D):Nat→D:=
 match dst with
 |some t=>upd fr t e
 |none=>fr
def zsO (fr fr2:Nat→D)(dst:Option Tmp)(s s2:St):Prop:=∃e H n,s=⟨zdx fr dst e,H,n⟩∧s2=⟨zdx fr2 dst e,H,n⟩
theorem zdz {fr fr2:Nat→D}{H:zas}{n:Nat}{dst:Option Tmp}{e:D}:zsO fr fr2 dst (St.put ⟨fr,H,n⟩ dst e) (St.put ⟨fr2,H,n⟩ dst e):=by
 refine⟨e,H,n,?_,?_⟩<;>cases dst<;>rfl
theorem zcC {fr fr2:Nat→D}{H:zas}{n:Nat}{dst:Option Tmp}{e:D}{id:Id}{ob:O}:zsO fr fr2 dst (St.new ⟨fr,H,n⟩ id ob dst e) (St.new ⟨fr2,H,n⟩ id ob dst e):=by
 refine⟨e,zaM H id (some ob),n+1,?_,?_⟩<;>cases dst<;>rfl
theorem zh2 {fr fr2:Nat→D}{H:zas}{n:Nat}{tag:Nat}{dst:Option Tmp}{t u:TypeId}{x y:D}{K2:St→Prop}(hk:∀s s2,K s→zsO fr fr2 dst s s2→K2 s2)(h:zcH P ⟨fr,H,n⟩ tag dst t u x y K):
  zcH P ⟨fr2,H,n⟩ tag dst t u x y K2:=by
 unfold zcH at h ⊢
 split at h
 case h_2=>exact h.elim
 simp only at h ⊢
 split at h
 ·rcases h with⟨h1,h2,h3,h4,h5,hK⟩|⟨ys,h1,h2,h3,h4,hK⟩|⟨ys,h0,h0',h1,h2,h3,h4,hK⟩
  ·exact .inl ⟨h1,h2,h3,h4,h5,hk _ _ (hK) zcC⟩
  ·exact .inr (.inl ⟨ys,h1,h2,h3,h4,hk _ _ (hK) zdz⟩)
  ·exact .inr (.inr ⟨ys,h0,h0',h1,h2,h3,h4,hk _ _ (hK) zcC⟩)
 ·obtain⟨ys,ob,h0,h0',h1,h2,h3,h4,h5,h6,h7,hK⟩:=h
  exact⟨ys,ob,h0,h0',h1,h2,h3,h4,h5,h6,h7,hk _ _ (hK) zcC⟩
 ·split at h
  case h_2=>exact h.elim
  obtain⟨h1,h2,h3,h4,h5,h6,hK⟩:=h
  exact⟨h1,h2,h3,h4,h5,h6,hk _ _ (hK) zcC⟩
 ·exact h.elim
theorem zbK {fr fr2:Nat→D}{H:zas}{n:Nat}{o:Oper}(he:∀x∈o.op.operands,St.ev G ⟨fr,H,n⟩ x=St.ev G ⟨fr2,H,n⟩ x){K2:St→Prop}(hk:∀s s2,K s→zsO fr fr2 o.dst s s2→K2 s2)(h:zcN P G N tag0 o ⟨fr,H,n⟩ K):
  zcN P G N tag0 o ⟨fr2,H,n⟩ K2:=by
 unfold zcN at h ⊢
 simp only at h ⊢
 rw[←zhr he]
 cases hev:za7 P o (St.ev G ⟨fr,H,n⟩) H with
 |some r=>
  obtain⟨d,c⟩:=r
  rw[hev]at h
  obtain⟨h1,h2,h3⟩:=h
  exact⟨h1,h2,hk _ _ (h3) zdz⟩
 |none=>
  rw[hev]at h
  obtain⟨hd,h⟩:=h
  refine⟨hd,?_⟩
  obtain⟨dst,op,type,pos,after,guard⟩:=o
  cases op<;>simp only[Op.operands]at he<;>simp only at h ⊢
  case alloc e=>
   split at h
   ·exact hk _ _ h zcC
   ·exact h
  case box e x=>
   rw[←he x (by simp)]
   exact⟨h.1,hk _ _ (h.2) zcC⟩
  case makeSlice t l c=>
   rw[←he l (by simp),←he c (by simp)]
   split at h
   ·obtain⟨h1,h2,h3,h4,h5⟩:=h
    exact⟨h1,h2,h3,h4,hk _ _ (h5) zcC⟩
   ·exact h
  case buildSlice t k ps=>
   have e2:(ps.toList.map fun p=>St.ev G ⟨fr,H,n⟩ p.2)=(ps.toList.map fun p=>St.ev G ⟨fr2,H,n⟩ p.2):=List.map_congr_left fun p hp=>he p.2 (by simpa using⟨p.1,by simpa using hp⟩)
   have e3:∀m,(ps.toList.all fun p=>zun m (St.ev G ⟨fr,H,n⟩ p.2))=(ps.toList.all fun p=>zun m (St.ev G ⟨fr2,H,n⟩ p.2)):=fun m=>by
    have:=congrArg (fun l=>l.all (zun m)) e2
    simp only[List.all_map]at this
    exact this
   have e4:(ps.toList.flatMap fun p=>(St.ev G ⟨fr,H,n⟩ p.2).cs)=(ps.toList.flatMap fun p=>(St.ev G ⟨fr2,H,n⟩ p.2).cs):=by
    have:=congrArg (fun l=>l.flatMap D.cs) e2
    simp only[List.flatMap_map]at this
    exact this
   rw[←e2,←e4]
   simp only[←e3]
   rcases h with h|h
   ·refine .inl ?_
    split at h
    ·obtain⟨h1,h2,h3,h4,h5⟩:=h
     exact⟨h1,h2,h3,h4,hk _ _ (h5) zdz⟩
    ·exact h
   ·refine .inr ?_
    split at h
    ·obtain⟨h1,h2,h3,h4,h5⟩:=h
     exact⟨h1,h2,h3,h4,hk _ _ (h5) zcC⟩
    ·exact h
  case store t p x=>
   rw[←he p (by simp),←he x (by simp)]
   split at h
   ·split at h
    ·obtain⟨h1,h2,h3,h4,h5,h6,h7⟩:=h
     subst h1
     exact⟨rfl,h2,h3,h4,h5,h6,hk _ _ h7 ⟨.junk,_,_,rfl,rfl⟩⟩
    ·exact h
   ·exact h
  case binOp op t x y yt=>
   split at h<;>(try(rename_i heq;cases heq;done))<;>(try exact h.elim)
   rename_i heq
   cases heq
   rw[←he x (by simp)]
   split at h
   ·exact fun b hb=>hk _ _ (h b hb) zdz
   ·exact fun b hb=>hk _ _ (h b hb) zdz
   ·exact h.elim
  case call c=>
   have e:=znu (c:=c) he
   cases hc:c.callee with
   |value f=>
    rw[hc]at h
    simp only at h ⊢
    rw[←he f (by simp[Call.operands,hc]),←e]
    split at h
    ·exact zaP h fun d H n hK=>hk _ _ hK zdz
    ·exact h
   |invoke r m=>rw[hc]at h;exact h
   |builtin b=>
    rw[hc]at h
    cases b<;>try exact h
    simp only at h ⊢
    have h':∀x∈c.args.toList,St.ev G ⟨fr,H,n⟩ x=St.ev G ⟨fr2,H,n⟩ x:=fun x hx=>he x (by simp[Call.operands,hc];simpa using hx)
    split at h
    ·rename_i x y t u ha ht
     rw[ha]at h'
     rw[←h' x (by simp),←h' y (by simp)]
     exact zh2 hk h
    ·exact h
  all_goals exact h
theorem za5 {dst:Option Tmp}{d:D}:st.put dst d=⟨zdx st.fr dst d,st.H,st.n⟩:=by cases dst<;>rfl
theorem zmD {o:Oper}{dst:Option Tmp}{fr:Nat→D}{H H':zas}{n n':Nat}{e:D}(h:∀d,dst=some d→d∉o.looksAt ops):∀x∈o.op.operands,St.ev G ⟨zdx fr dst e,H,n⟩ x=St.ev G ⟨fr,H',n'⟩ x:=by
 intro x hx
 cases x with
 |tmp t=>
  simp only[St.ev]
  cases dst with
  |none=>rfl
  |some d=>
   simp only[zdx,upd]
   rw[if_neg]
   rintro rfl
   exact h _ rfl (List.mem_append_left _ (List.mem_filterMap.2 ⟨.tmp t,by simpa using hx,rfl⟩))
 |_=>rfl
theorem zft {o:Oper}{dst:Option Tmp}{fr:Nat→D}{e:D}(h:∀d,dst=some d→d∉o.looksAt ops):zlf ops (zdx fr dst e) o.guard=zlf ops fr o.guard:=by
 cases hg:o.guard with
 |none=>rfl
 |some jw=>
  obtain⟨j,want⟩:=jw
  simp only[zlf]
  cases ht:(ops[j]?).bind (·.dst)with
  |none=>rfl
  |some t=>
   simp only[ob]
   cases dst with
   |none=>rfl
   |some d=>
    simp only[zdx,upd]
    rw[if_neg]
    rintro rfl
    exact h _ rfl (by simp[Oper.looksAt,hg,ht])
theorem zdK {x y:Option Tmp}{fr:Nat→D}{u v:D}(h:∀d,x=some d→y≠some d):zdx (zdx fr x u) y v=zdx (zdx fr y v) x u:=by
 cases x with
 |none=>rfl
 |some d=>
  cases y with
  |none=>rfl
  |some e=>
   have hne:d≠e:=fun he=>h d rfl (he▸rfl)
   funext j
   simp only[zdx,upd]
   by_cases h1:j=e
   ·subst h1;rw[if_pos rfl,if_neg (Ne.symm hne),if_pos rfl]
   ·rw[if_neg h1,if_neg h1]
def qv (P:Program)(G:Nat→List FD)(T:Tbl)(ops:Array Oper)(o:Oper)(st:St):Option (D×Prop):=
 match zlf ops st.fr o.guard with
 |some true=>zbg P T o (st.ev G) st.H
 |some false=>some (.tup [],True)
 |none=>none
def zbs (P:Program)(G:Nat→List FD)(T:Tbl)(N tag0:Nat)(ops:Array Oper)(q:Bool)(o:Oper)(st:St)(K:St→Prop):Prop:=
 if q then∃d c,qv P G T ops o st=some (d,c)∧zaS N o.dst=true∧c∧K (st.put o.dst d)
 else match zlf ops st.fr o.guard with
  |some true=>zcN P G N tag0 o st K
  |some false=>zaS N o.dst=true∧K (st.put o.dst (.tup []))
  |none=>False
theorem zf6 {o:Oper}{dst:Option Tmp}{fr:Nat→D}{H H':zas}{n n':Nat}{e:D}(h:∀d,dst=some d→d∉o.looksAt ops)(hh:H'=H∨zco o.op=true):
  qv P G T ops o ⟨zdx fr dst e,H',n'⟩=qv P G T ops o ⟨fr,H,n⟩:=by
 unfold qv
 simp only
 rw[zft h,zmE (zmD (H':=H) (n':=n) h)]
 rcases hh with rfl|hh
 ·rfl
 ·rw[ziA (H:=H') (H':=H) hh]
theorem zfI {oi oj:Oper}{q:Bool}{fr:Nat→D}{H:zas}{n:Nat}{d:D}{c:Prop}(hap:oi.apart ops oj=true)(hh:q=true∨zco oi.op=true)(hy:qv P G T ops oi ⟨fr,H,n⟩=some (d,c))
  (h:zbs P G T N tag0 ops q oj ⟨zdx fr oi.dst d,H,n⟩ K):zbs P G T N tag0 ops q oj ⟨fr,H,n⟩ (fun s=>qv P G T ops oi s=some (d,c)∧K ⟨zdx s.fr oi.dst d,s.H,s.n⟩):=by
 obtain⟨h1,h2,h3⟩:=Oper.apart_spec hap
 unfold zbs at h ⊢
 have eput:∀(e:D),(St.put ⟨fr,H,n⟩ oj.dst e)=⟨zdx fr oj.dst e,H,n⟩:=fun e=>za5
 have eput2:∀(e:D),(St.put ⟨zdx fr oi.dst d,H,n⟩ oj.dst e)=⟨zdx (zdx fr oj.dst e) oi.dst d,H,n⟩:=fun e=>by rw[za5];simp only;rw[zdK h2]
 have hyj:∀e,qv P G T ops oi ⟨zdx fr oj.dst e,H,n⟩=some (d,c):=fun e=>(zf6 h3 (.inl rfl)).trans hy
 split
 ·rename_i hq
  simp only[hq,if_true]at h
  obtain⟨e,c',g1,g2,g3,g4⟩:=h
  refine⟨e,c',(zf6 h1 (.inl rfl)).symm.trans g1,g2,g3,?_,?_⟩
  ·rw[eput];exact hyj e
  ·rw[eput];rw[eput2]at g4;exact g4
 ·rename_i hq
  simp only[hq]at h
  simp only at h ⊢
  rw[zft h1]at h
  split
  ·rename_i hg
   simp only[hg]at h
   refine zbK (fr2:=fr) (zmD h1) ?_ h
   rintro s s2 hK ⟨e,H',n',rfl,rfl⟩
   refine⟨(zf6 h3 (.inr (hh.resolve_left hq))).trans hy,?_⟩
   simp only
   rw[zdK h2]at hK
   exact hK
  ·rename_i hg
   simp only[hg]at h
   refine⟨h.1,?_,?_⟩
   ·rw[eput];exact hyj _
   ·have:=h.2
    rw[eput2]at this
    rw[eput]
    exact this
  ·rename_i hg
   simp[hg]at h
def zmj (P:Program)(G:Nat→List FD)(T:Tbl)(N tag0:Nat)(ops:Array Oper)(q:Nat→Bool)(K:St→Prop):Nat→Array Bool→St→Prop
 |0,listed,st=>Region.ready .any ops listed=[]∧K st
 |fuel+1,listed,st=>(Region.ready .any ops listed=[]→K st)∧
  ∀i∈Region.ready .any ops listed,∀o,ops[i]?=some o→zbs P G T N tag0 ops (q i) o st (zmj P G T N tag0 ops q K fuel (listed.setIfInBounds i true))
theorem zua (hT:zan P G T){Q':Exit→Act→World→Prop}{K':Act→World→Prop}{i:Nat}{o:Oper}{q:Bool}(ho:ops[i]?=some o)(h:Rel G N st a w L F)(hs:zbs P G T N tag0 ops q o st K)
  (hk:∀a' w',Sat G N st w L F K a' w'→K' a' w'):wpOp P ops Q' i K' a w:=by
 unfold wpOp
 simp only[ho]
 have sym:∀{K},zcN P G N tag0 o st K→(∀a' w',Sat G N st w L F K a' w'→K' a' w')→o.wp P a w K' Q':=fun h1 h2=>Oper.wp_mono h2 (zob h h1)
 have skip:zaS N o.dst=true→K (st.put o.dst (.tup []))→K' (a.put o.dst undef) w:=by
  intro hd hK
  have hH:(st.put o.dst (.tup [])).H=st.H:=by cases o.dst<;>rfl
  have hn:(st.put o.dst (.tup [])).n=st.n:=by cases o.dst<;>rfl
  refine hk _ _ ⟨st.put o.dst (.tup []),L,F,hK,h.put (st':=st.put o.dst (.tup [])) (by rw[hH,hn];exact h.ok) (by rw[hH,hn];exact zbL.refl _ _ _ _ _) hd (by simp only[zak];exact⟨[],rfl,trivial⟩) rfl,?_⟩
  unfold zgB;rw[hH,hn];exact zbL.refl _ _ _ _ _
 unfold zbs at hs
 split at hs
 ·obtain⟨d,c,h1,h2,h3,h4⟩:=hs
  unfold qv at h1
  split at h1
  ·rename_i hg
   rw[zc8 h hg]
   simp only[if_true]
   exact .inl (sym (zk8 hT h2 h1 h3 h4) hk)
  ·rename_i hg
   rw[zc8 h hg]
   simp only[Option.some.injEq,Prod.mk.injEq]at h1
   obtain⟨rfl,rfl⟩:=h1
   simp only[Bool.false_eq_true,if_false]
   exact skip h2 h4
  ·cases h1
 ·split at hs
  ·rename_i hg
   rw[zc8 h hg]
   simp only[if_true]
   exact .inl (sym hs hk)
  ·rename_i hg
   rw[zc8 h hg]
   simp only[Bool.false_eq_true,if_false]
   exact skip hs.1 hs.2
  ·exact hs.elim
theorem zg7 (hT:zan P G T){q:Nat→Bool}{Q':Exit→Act→World→Prop}:∀(fuel:Nat) (listed:Array Bool) (st:St) (a:Act) (w:World) (L:Loc) (F:Nat→Nat→Prop),Rel G N st a w L F→zmj P G T N tag0 ops q K fuel listed st→
  (∀a' w',Sat G N st w L F K a' w'→Q' .normal a' w')→wpAny P .any ops Q' fuel listed a w
 |0,listed,st,a,w,L,F,h,hs,hQ=>⟨hs.1,hQ _ _ ⟨st,L,F,hs.2,h,zbL.refl _ _ _ _ _⟩⟩
 |fuel+1,listed,st,a,w,L,F,h,hs,hQ=>by
  refine⟨fun hr=>hQ _ _ ⟨st,L,F,hs.1 hr,h,zbL.refl _ _ _ _ _⟩,fun i hi=>?_⟩
  obtain⟨_,o,ho,_⟩:=mem_ready.1 hi
  refine zua hT ho h (hs.2 i hi o ho) ?_
  rintro a' w' ⟨st1,L1,F1,h1,h2,h3⟩
  exact zg7 hT fuel _ st1 a' w' L1 F1 h2 h1 fun a2 w2 hsat=>hQ _ _ (hsat.trans h3)
theorem zow {q:Nat→Bool}{i:Nat}{oi:Oper}{d:D}{c:Prop}(hi:ops[i]?=some oi)(hqi:q i=true)(hc:c)(hd:zaS N oi.dst=true)(B:Nat→Bool)
  (hB:∀j oj,ops[j]?=some oj→B j=true→∃e∈oj.after,Region.binds .any e=true∧(e.on=i∨B e.on=true)):
  ∀(fuel:Nat) (listed:Array Bool) (st:St),(∀j,B j=true→listed.getD j false=false)→
   (∀j oj,ops[j]?=some oj→j≠i→listed.getD j true=false→B j=false→oi.apart ops oj=true∧(q j=true∨zco oi.op=true))→
   i∈Region.ready .any ops listed→qv P G T ops oi st=some (d,c)→
   zmj P G T N tag0 ops q K fuel (listed.setIfInBounds i true) (st.put oi.dst d)→zmj P G T N tag0 ops q K (fuel+1) listed st:=by
 intro fuel
 have take:∀{st K},qv P G T ops oi st=some (d,c)→K (st.put oi.dst d)→zbs P G T N tag0 ops (q i) oi st K:=by
  intro st K hy hK
  unfold zbs
  rw[if_pos hqi]
  exact⟨d,c,hy,hd,hc,hK⟩
 induction fuel with
 |zero=>
  intro listed st _ _ hr hy H
  refine⟨fun h=>(by rw[h]at hr;cases hr),fun j hj oj hoj=>?_⟩
  by_cases hji:j=i
  ·subst hji;rw[hi]at hoj;obtain rfl:=Option.some.inj hoj;exact take hy H
  ·have:=ready_mono hj hji
   rw[H.1]at this
   cases this
 |succ fuel ih=>
  intro listed st hBl hfree hr hy H
  refine⟨fun h=>(by rw[h]at hr;cases hr),fun j hj oj hoj=>?_⟩
  by_cases hji:j=i
  ·subst hji;rw[hi]at hoj;obtain rfl:=Option.some.inj hoj;exact take hy H
  ·have h1:=H.2 j (ready_mono hj hji) oj hoj
   obtain⟨hjun,oj',hoj',hall⟩:=mem_ready.1 hj
   rw[hoj]at hoj'
   obtain rfl:=Option.some.inj hoj'
   have hnl:listed.getD i false=false:=by
    have h0:=(mem_ready.1 hr).1
    rcases Nat.lt_or_ge i listed.size with h'|h'
    ·simp[h']at h0 ⊢;exact h0
    ·simp[Array.getElem?_eq_none h']
   have hBj:B j=false:=by
    cases hb:B j with
    |false=>rfl
    |true=>
     obtain⟨e,he,hbe,h3⟩:=hB j oj hoj hb
     have h4:=hall e he hbe
     rcases h3 with h3|h3
     ·rw[h3,hnl]at h4;cases h4
     ·rw[hBl _ h3]at h4;cases h4
   obtain⟨hap,hh⟩:=hfree j oj hoj hji hjun hBj
   have hBl':∀k,B k=true→(listed.setIfInBounds j true).getD k false=false:=fun k hk=>by
    by_cases hjk:j=k
    ·subst hjk;rw[hBj]at hk;cases hk
    ·rw[getD_set_ne false hjk];exact hBl k hk
   have hfree':∀k ok,ops[k]?=some ok→k≠i→(listed.setIfInBounds j true).getD k true=false→
     B k=false→oi.apart ops ok=true∧(q k=true∨zco oi.op=true):=fun k ok hk hki hun hno=>by
    refine hfree k ok hk hki ?_ hno
    by_cases hjk:j=k
    ·subst hjk;exact hjun
    ·rw[getD_set_ne true hjk]at hun;exact hun
   rw[za5]at h1
   have h2:=zfI hap hh (fr:=st.fr) (H:=st.H) (n:=st.n) hy h1
   have mono:∀{K1 K2:St→Prop},(∀s,K1 s→K2 s)→zbs P G T N tag0 ops (q j) oj st K1→zbs P G T N tag0 ops (q j) oj st K2:=by
    intro K1 K2 hk hs
    unfold zbs at hs ⊢
    split
    ·rename_i hq
     simp only[hq,if_true]at hs
     obtain⟨e,c',g1,g2,g3,g4⟩:=hs
     exact⟨e,c',g1,g2,g3,hk _ g4⟩
    ·rename_i hq
     simp only[hq]at hs
     split
     ·rename_i hg
      simp[hg]at hs
      refine zbK (fr:=st.fr) (fr2:=st.fr) (fun _ _=>rfl) ?_ hs
      rintro s s2 hK ⟨e,H',n',rfl,rfl⟩
      exact hk _ hK
     ·rename_i hg
      simp[hg]at hs
      exact⟨hs.1,hk _ hs.2⟩
     ·rename_i hg
      simp[hg]at hs
   refine mono (fun s h3=>ih (listed.setIfInBounds j true) s hBl' hfree' (ready_mono hr (Ne.symm hji)) h3.1 ?_) h2
   rw[Array.setIfInBounds_comm _ _ hji,za5]
   exact h3.2
def zbq (am:Nat→Bool)(T:Tbl)(o:Oper):Bool:=
 match o.op with
 | .move _| .assign _| .pick _ _ _| .build _ _| .load _ _| .nilCheck _| .unOp _ _ _| .convert _ _ _| .slice _ _ _ _ _| .fieldAddr _ _ _| .field _ _ _| .indexAddr _ _ _| .index _ _ _| .extract _ _=>true
 | .buildSlice _ _ _=> !am (o.dst.getD 0)
 | .makeFunc (.func _) _ _=>true
 | .binOp _ _ _ y _=> !zdF y
 | .call c=>
  match c.callee with
  | .value (.func f)=>(T f).isSome
  | .builtin .append=> !am (o.dst.getD 0)
  | .builtin .len| .builtin .max| .builtin .min=>true
  |_=>false
 |_=>false
theorem zdN {o:Oper}{r:Option (D×Prop)}(hr:zbg P T o (st.ev G) st.H=r)(h:Vv N r st o.dst K):∃d c,zbg P T o (st.ev G) st.H=some (d,c)∧zaS N o.dst=true∧c∧K (st.put o.dst d):=by
 obtain⟨⟨d,c⟩,rfl,h1,h2,h3⟩:=zbB h
 exact⟨d,c,hr,h1,h2,h3⟩
theorem zbe {o:Oper}{r:Option (D×Prop)}(hr:za7 P o (st.ev G) st.H=r)(hn:za7 P o (st.ev G) st.H=none→zbg P T o (st.ev G) st.H=none):zbg P T o (st.ev G) st.H=r:=by
 cases r with
 |some r=>unfold zbg;rw[hr]
 |none=>exact hn hr
theorem zx4:∀(o:Oper),zbq am T o=true→XO P G T N tag0 am st K o.dst o.op→∃d c,zbg P T o (st.ev G) st.H=some (d,c)∧zaS N o.dst=true∧c∧K (st.put o.dst d):=by
 intro o hq h
 obtain⟨dst,op,ty,pos,after,guard⟩:=o
 cases op with
 |move x=>exact⟨_,True,rfl,h.1,trivial,h.2⟩
 |assign x=>exact⟨_,True,rfl,h.1,trivial,h.2⟩
 |pick c a b=>exact zdN (zbe rfl fun hn=>by simp only[zbg,hn]) h
 |build t ps=>
  obtain⟨h1,h2⟩:=h
  refine zdN (zbe ?_ fun hn=>by simp only[zbg,hn]) h2
  simp only[za7]
  rw[if_pos h1]
 |load t a=>exact zdN (zbe rfl fun hn=>by simp only[zbg,hn]) h
 |nilCheck x=>exact zdN (zbe rfl fun hn=>by simp only[zbg,hn]) h
 |binOp op t x y yt=>
  simp only[zbq,Bool.not_eq_true']at hq
  simp only[XO,hq]at h
  exact zdN (zbe rfl fun hn=>by simp only[zbg,hn]) h
 |unOp op t x=>exact zdN (zbe rfl fun hn=>by simp only[zbg,hn]) h
 |convert s t x=>exact zdN (zbe rfl fun hn=>by simp only[zbg,hn]) h
 |makeFunc f first caps=>
  cases f with
  |func f=>
   obtain⟨h1,h2⟩:=h
   simp only[Bool.and_eq_true,beq_iff_eq]at h1
   refine⟨_,True,?_,h1.2,trivial,h2⟩
   simp only[zbg,za7,h1.1,if_true]
  |_=>exact h.elim
 |slice t x lo hi mx=>exact zdN (zbe rfl fun hn=>by simp only[zbg,hn]) h
 |fieldAddr t x i=>exact zdN (zbe rfl fun hn=>by simp only[zbg,hn]) h
 |field t x i=>exact zdN (zbe rfl fun hn=>by simp only[zbg,hn]) h
 |indexAddr t x i=>exact zdN (zbe rfl fun hn=>by simp only[zbg,hn]) h
 |index t x i=>exact zdN (zbe rfl fun hn=>by simp only[zbg,hn]) h
 |extract x i=>exact zdN (zbe rfl fun hn=>by simp only[zbg,hn]) h
 |buildSlice t n ps=>
  simp only[zbq,Bool.not_eq_true']at hq
  simp only[XO,hq]at h
  exact zdN (o:=⟨dst,.buildSlice t n ps,ty,pos,after,guard⟩) rfl h
 |call c=>
  obtain⟨callee,args,ts⟩:=c
  simp only[XO]at h
  cases callee with
  |value f=>
   cases f with
   |func g=>
    simp only[zbq]at hq
    simp only[zp2]at h
    obtain⟨⟨g',caps⟩,h1,h2⟩:=zbB h
    simp only[St.ev,zyr,Option.some.injEq,Prod.mk.injEq]at h1
    obtain⟨rfl,rfl⟩:=h1
    cases ht:T g with
    |none=>rw[ht]at hq;cases hq
    |some t=>
     simp only[ht]at h2
     obtain⟨xs,h3,h4⟩:=zbB h2
     refine zdN (o:=⟨dst,.call ⟨.value (.func g),args,ts⟩,ty,pos,after,guard⟩) (r:=t xs) ?_ h4
     simp only[zbg,za7,St.ev,znJ,ht]
     rw[h3]
   |_=>cases hq
  |invoke _ _=>cases hq
  |builtin b=>
   cases b with
   |len=>exact zdN (zbe (o:=⟨dst,.call ⟨.builtin .len,args,ts⟩,ty,pos,after,guard⟩) rfl fun hn=>by simp only[zbg,hn]) h
   |max=>exact zdN (zbe (o:=⟨dst,.call ⟨.builtin .max,args,ts⟩,ty,pos,after,guard⟩) rfl fun hn=>by simp only[zbg,hn]) h
   |min=>exact zdN (zbe (o:=⟨dst,.call ⟨.builtin .min,args,ts⟩,ty,pos,after,guard⟩) rfl fun hn=>by simp only[zbg,hn]) h
   |append=>
    simp only[zbq,Bool.not_eq_true']at hq
    simp only[zp2]at h
    unfold zzQ at h
    split at h
    case h_2=>exact h.elim
    rename_i x y t u ha ht
    simp only[hq]at h
    refine zdN (o:=⟨dst,.call ⟨.builtin .append,args,ts⟩,ty,pos,after,guard⟩) ?_ h
    simp only[zbg,za7,zaN,ha,ht]
   |_=>cases hq
 |_=>cases hq
def zbp (ops:Array Oper)(i:Nat):List Nat:=
 (List.range ops.size).foldl (fun acc j=>match ops[j]? with
  |some oj=>if oj.after.any (fun e=>Region.binds .any e&&(e.on==i||acc.contains e.on))then j::acc else acc
  |none=>acc) []
def zqW (am:Nat→Bool)(T:Tbl)(ops:Array Oper)(listed:Array Bool)(i:Nat):Bool:=
 match ops[i]? with
 |none=>false
 |some oi=>
  ((zbp ops i).all fun j=> !listed.getD j false&&match ops[j]? with
   |some oj=>oj.after.any (fun e=>Region.binds .any e&&(e.on==i||(zbp ops i).contains e.on))
   |none=>true)&&
  (List.range ops.size).all fun j=>j==i||listed.getD j true||(zbp ops i).contains j||match ops[j]? with
   |some oj=>oi.apart ops oj&&(zbq am T oj||zco oi.op)
   |none=>true
def ziz (am:Nat→Bool)(T:Tbl)(ops:Array Oper):Nat→Nat→Array Bool→Bool
 |0,_,listed=>(Region.ready .any ops listed).isEmpty
 |m+1,k,listed=>(match ops[k]? with
   |some o=>if zbq am T o then(Region.ready .any ops listed).contains k&&zqW am T ops listed k else Region.ready .any ops listed==[k]
   |none=>false)&&ziz am T ops m (k+1) (listed.setIfInBounds k true)
def zqN (am:Nat→Bool)(T:Tbl)(ops:Array Oper):Bool:=ziz am T ops ops.size 0 (Array.replicate ops.size false)
theorem zmH {listed:Array Bool}{i:Nat}{oi:Oper}(hi:ops[i]?=some oi)(h:zqW am T ops listed i=true):
  (∀j oj,ops[j]?=some oj→(zbp ops i).contains j=true→∃e∈oj.after,Region.binds .any e=true∧(e.on=i∨(zbp ops i).contains e.on=true))∧
  (∀j,(zbp ops i).contains j=true→listed.getD j false=false)∧
  (∀j oj,ops[j]?=some oj→j≠i→listed.getD j true=false→(zbp ops i).contains j=false→oi.apart ops oj=true∧(zbq am T oj=true∨zco oi.op=true)):=by
 unfold zqW at h
 rw[hi]at h
 simp only[Bool.and_eq_true]at h
 generalize zbp ops i=B at*
 obtain⟨hB,h⟩:=h
 rw[List.all_eq_true]at hB h
 refine⟨fun j oj hj hb=>?_,fun j hb=>?_,fun j oj hj hne hun hno=>?_⟩
 ·have h1:=hB j (by simpa using hb)
  rw[hj]at h1
  simp only[Bool.and_eq_true]at h1
  obtain⟨e,he,h2⟩:=Array.any_eq_true'.1 h1.2
  simp only[Bool.and_eq_true,Bool.or_eq_true,beq_iff_eq]at h2
  exact⟨e,he,h2.1,h2.2⟩
 ·have h1:=hB j (by simpa using hb)
  simp only[Bool.and_eq_true,Bool.not_eq_true']at h1
  exact h1.1
 ·have h1:=h j (by rw[List.mem_range];exact(Array.getElem?_eq_some_iff.1 hj).1)
  rw[hj,hun,hno]at h1
  simpa[hne]using h1
theorem zgV (hT:zan P G T):∀(l:List Oper) (k:Nat) (listed:Array Bool) (st:St),(∀j,l[j]?=ops[k+j]?)→ziz am T ops l.length k listed=true→zkf P G T N tag0 am ops l K st→
  zmj P G T N tag0 ops (fun i=>((ops[i]?).map (zbq am T)).getD false) K l.length listed st
 |[],k,listed,st,_,hd,hs=>by
  simp only[List.length_nil,ziz,List.isEmpty_iff]at hd
  exact⟨hd,hs⟩
 |o::l,k,listed,st,hl,hd,hs=>by
  have h0:ops[k]?=some o:=by have:=hl 0;simpa using this.symm
  have hl':∀j,l[j]?=ops[k+1+j]?:=fun j=>by have:=hl (j+1);simp at this;rw[this];congr 1;omega
  simp only[List.length_cons,ziz,h0,Bool.and_eq_true]at hd
  obtain⟨hd1,hd2⟩:=hd
  obtain⟨b,hb,h1,h2⟩:=zbB hs
  simp only[List.length_cons]
  by_cases hq:zbq am T o=true
  ·rw[if_pos hq]at hd1
   simp only[Bool.and_eq_true]at hd1
   have hqk:((ops[k]?).map (zbq am T)).getD false=true:=by rw[h0];exact hq
   have hex:∃d c,qv P G T ops o st=some (d,c)∧zaS N o.dst=true∧c∧zkf P G T N tag0 am ops l K (st.put o.dst d):=by
    cases b with
    |true=>
     obtain⟨d,c,g1,g2,g3,g4⟩:=zx4 o hq (h1 rfl)
     exact⟨d,c,by simp only[qv,hb];exact g1,g2,g3,g4⟩
    |false=>
     obtain⟨g1,g2⟩:=h2 rfl
     exact⟨.tup [],True,by simp only[qv,hb],g1,trivial,g2⟩
   obtain⟨d,c,g1,g2,g3,g4⟩:=hex
   obtain⟨f1,f2,f3⟩:=zmH h0 hd1.2
   refine zow h0 hqk g3 g2 (fun j=>(zbp ops k).contains j) f1 l.length listed st f2 ?_ (by simpa using hd1.1) g1 (zgV hT l (k+1) _ _ hl' hd2 g4)
   intro j oj hj hne hun hno
   have:=f3 j oj hj hne hun hno
   rw[hj]
   exact this
  ·rw[if_neg hq]at hd1
   have hr:Region.ready .any ops listed=[k]:=by simpa using hd1
   refine⟨fun h=>(by rw[hr]at h;cases h),fun i hi o' ho'=>?_⟩
   rw[hr]at hi
   obtain rfl:i=k:=by simpa using hi
   rw[h0]at ho'
   obtain rfl:=Option.some.inj ho'
   unfold zbs
   have:(((ops[i]?).map (zbq am T)).getD false)=false:=by rw[h0];simpa using hq
   simp only[this]
   simp only[hb]
   cases b with
   |true=>
    refine zbK (fr:=st.fr) (fr2:=st.fr) (K:=fun s=>zkf P G T N tag0 am ops l K s) (fun _ _=>rfl) ?_ (zkm hT o (h1 rfl))
    rintro s s2 hK ⟨e,H',n',rfl,rfl⟩
    exact zgV hT l (i+1) _ _ hl' hd2 hK
   |false=>
    obtain⟨g1,g2⟩:=h2 rfl
    exact⟨g1,zgV hT l (i+1) _ _ hl' hd2 g2⟩
theorem zqc {w':World}(hh:w'.heap=w.heap)(b k:Nat):World.at w' b k=World.at w b k:=zjh (by rw[hh]) k
theorem zfu {w':World}(hh:w'.heap=w.heap){U:Id→Prop}:Ext w L F U w' L F U:=
 ⟨fun _ h=>h,fun _ _=>rfl,fun _ _ h=>h,fun b k _=>zqc hh b k,by rw[hh];exact Nat.le_refl _,fun b cs T fr _ h=>⟨cs,T,fr,by rw[←hh];exact h,Nat.le_refl _⟩⟩
theorem OkW.heap {w':World}{H:zas}{U:Id→Prop}(hok:OkW G w L F U H)(hh:w'.heap=w.heap):OkW G w' L F U H:=by
 refine⟨by rw[hh];exact hok.fb,fun id o ho=>?_,hok.inj,zdT (fun _ _ h=>h) (fun b k _=>zqc hh b k) hok.glob⟩
 obtain⟨h1,h2⟩:=hok.live id o ho
 exact⟨h1,h2.ext (zfu hh) h1 fun hv=>⟨by rw[hh],(zaC h2 hv).1⟩⟩
theorem zp0 (hm:P.follows .mixedOrders=true)(hT:zan P G T){Q:Exit→St→Prop}{id:Nat}(hd:zqN am T ops=true)(h:zkf P G T N tag0 am ops ops.toList (Q .normal) st):W P G N (.region id ops true) Q st:=by
 intro a w L F hr
 refine wp_region_any hm ?_
 have hr':Rel G N st a {w with drawn:=w.drawn+1} L F:=⟨hr.ok.heap rfl,hr.size,fun t=>(hr.fr t).ext (zfu (w:=w) (w':={w with drawn:=w.drawn+1}) rfl),hr.nd⟩
 have hst:zgB st w L F st {w with drawn:=w.drawn+1} L F:=⟨fun _ h=>h,fun _ _=>rfl,fun _ _ h=>h,Nat.le_refl _,fun _ _ _=>rfl,fun _ _ _ _=>rfl,fun _ cs T fr _ h=>⟨cs,T,fr,h,Nat.le_refl _⟩,fun _ _ h=> .inl h,fun _ _ h=> .inr h,rfl,rfl,rfl,Nat.le_succ _⟩
 have hd':ziz am T ops ops.toList.length 0 (Array.replicate ops.size false)=true:=by simpa[zqN]using hd
 have:=zg7 hT (Q':=fun e a' w'=>Sat G N st w L F (Q e) a' w') _ _ st a _ L F hr' (zgV hT ops.toList 0 _ st (by simp) hd' h) (fun _ _ hs=>hs.trans hst)
 simpa using this
end
end Go.Abs
namespace Go.Abs
open Go
section
variable {P:Program} {G:Nat→List FD} {T:Tbl} {N tag0:Nat} {am:Nat→Bool} {st:St} {a:Act} {w:World} {L:Loc} {F:Nat→Nat→Prop} {K:St→Prop} {Q:Exit→St→Prop}
def zDf (R:St→Prop)(Q:Exit→St→Prop):Exit→St→Prop
 | .normal,st=>R st
 | .exit i,st=>Q (.exit i) st
 | .goto l,st=>Q (.goto l) st
 | .ret,st=>Q .ret st
 | .panic c,st=>Q (.panic c) st
 | .outgrown,st=>Q .outgrown st
def zqD (x y:Prop):D→Prop
 | .fz (.b t)=>zdn t x y
 |_=>False
def XC (P:Program)(G:Nat→List FD)(T:Tbl)(N tag0:Nat)(am:Nat→Bool):Code→(Exit→St→Prop)→St→Prop
 | .skip,Q,st=>Q .normal st
 | .seq x y,Q,st=>XC P G T N tag0 am x (zDf (XC P G T N tag0 am y Q) Q) st
 | .cond c x y,Q,st=>zqD (XC P G T N tag0 am x Q st) (XC P G T N tag0 am y Q st) (st.ev G c)
 | .block id c,Q,st=>XC P G T N tag0 am c (zha id Q) st
 | .exit id,Q,st=>Q (.exit id) st
 | .ret,Q,st=>Q .ret st
 | .region _ ops false,Q,st=>zkf P G T N tag0 am ops ops.toList (Q .normal) st
 | .region id ops true,Q,st=>zdn (am (1000000+id)) (W P G N (.region id ops true) Q st) (zkf P G T N tag0 am ops ops.toList (Q .normal) st)
 |c,Q,st=>W P G N c Q st
def zbk (am:Nat→Bool)(T:Tbl):Code→Bool
 | .seq x y=>zbk am T x&&zbk am T y
 | .cond _ x y=>zbk am T x&&zbk am T y
 | .block _ c=>zbk am T c
 | .region id ops true=>am (1000000+id)||zqN am T ops
 |_=>true
theorem zkl (hm:P.follows .mixedOrders=true)(hT:zan P G T):∀(c:Code) (Q:Exit→St→Prop) (st:St),zbk am T c=true→XC P G T N tag0 am c Q st→W P G N c Q st
 | .skip,_,_,_,h=>zut h
 | .seq x y,Q,st,hd,h=>by
  simp only[XC]at h
  simp only[zbk,Bool.and_eq_true]at hd
  refine zx1 (zus (zkl hm hT x _ st hd.1 h) fun e st1 h1=>?_)
  cases e with
  |normal=>exact zkl hm hT y Q st1 hd.2 h1
  |_=>exact h1
 | .cond c x y,Q,st,hd,h=>by
  simp only[XC]at h
  simp only[zbk,Bool.and_eq_true]at hd
  unfold zqD at h
  split at h
  ·rename_i t ht
   exact zup ht (fun hh=>zkl hm hT x Q st hd.1 (h.1 hh)) (fun hh=>zkl hm hT y Q st hd.2 (h.2 hh))
  ·exact h.elim
 | .block id c,Q,st,hd,h=>by
  simp only[XC]at h
  exact zpZ (zkl hm hT c _ st hd h)
 | .exit id,_,_,_,h=>zuq h
 | .ret,_,_,_,h=>zx0 h
 | .region _ ops false,Q,st,_,h=>by
  simp only[XC]at h
  exact zkj hT h
 | .region id ops true,Q,st,hd,h=>by
  simp only[XC]at h
  simp only[zbk]at hd
  cases ha:am (1000000+id)with
  |true=>exact h.1 ha
  |false=>exact zp0 hm hT (by simpa[ha]using hd) (h.2 ha)
 | .loop _,Q,st,_,h=>by simpa only[XC]using h
 | .rangeFunc _ _ _ _,Q,st,_,h=>by simpa only[XC]using h
 | .scope _,Q,st,_,h=>by simpa only[XC]using h
 | .label _,Q,st,_,h=>by simpa only[XC]using h
 | .goto _,Q,st,_,h=>by simpa only[XC]using h
 | .refuse _,Q,st,_,h=>by simpa only[XC]using h
theorem zjn {ts:Array TypeId}{x:D}:zaN P .len ts [x]=ob ts[0]? fun t=>zk5 P t x:=by
 simp only[zaN];cases ts[0]?<;>rfl
theorem zjo {ts:Array TypeId}{k k':IntKind}{x y:Int}:zaN P .max ts [.fz (.i k x),.fz (.i k' y)]=some (.fz (.i k (max x y)),k=k'):=rfl
theorem zjp {ts:Array TypeId}{k k':IntKind}{x y:Int}:zaN P .min ts [.fz (.i k x),.fz (.i k' y)]=some (.fz (.i k (min x y)),k=k'):=rfl
def zDp (P:Program)(fn:Func)(Q:D→zas→Nat→Prop)(st:St):Prop:=
 Bi (zdX P st fn.results.toList) fun dc=>Req dc.2 (Q (one dc.1) st.H st.n)
theorem zpY {fn:Func}{R:D→zas→Nat→Prop}:(match zdX P st fn.results.toList with
  |some (ds,c)=>c∧R (one ds) st.H st.n
  |none=>False)=zDp P fn R st:=by
 unfold zDp Bi Req
 cases zdX P st fn.results.toList<;>rfl
theorem zrP {t:Nat}:zjT P st (.tmp t)=some (st.fr t,True):=rfl
theorem zpv {t ty:Nat}:zjT P st (.cell t ty)=zeh P st.H ty (st.fr t):=rfl
theorem zrQ:zdX P st []=some ([],True):=rfl
theorem zpw {r:ResultVar}{rs:List ResultVar}:zdX P st (r::rs)=ob (zjT P st r) fun a=>ob (zdX P st rs) fun b=>some (a.1::b.1,a.2∧b.2):=by
 simp only[zdX]
 unfold ob
 cases zjT P st r with
 |none=>rfl
 |some a=>simp only;cases zdX P st rs<;>rfl
def zg8:Nat→List D→List (Nat×D)
 |_,[]=>[]
 |k,d::ds=>(k,d)::zg8 (k+1) ds
theorem znK:∀(ds:List D) (k t:Nat),frL (zg8 k ds) t=if t<k then .junk else ds.getD (t-k) .junk
 |[],k,t=>by simp[zg8,frL]
 |d::ds,k,t=>by
  simp only[zg8,frL,znK ds (k+1) t]
  by_cases h:t=k
  ·subst h;simp
  ·rw[if_neg h]
   by_cases h2:t<k
   ·rw[if_pos (by omega),if_pos h2]
   ·rw[if_neg (by omega),if_neg h2]
    have:t-k=(t-(k+1))+1:=by omega
    rw[this];rfl
theorem zez (ds:List D):zks ds=frL (zg8 0 ds):=by
 funext t;rw[znK];simp[zks]
theorem zvo (hm:P.follows .mixedOrders=true)(hT:zan P G T){f:FuncId}{fn:Func}{c:Code}{args:List D}{H:zas}{n:Nat}{R:D→zas→Nat→Prop}(tag0:Nat)(am:Nat→Bool)(hcall:zam P f)(hf:P.funcs[f]?=some fn)(hb:fn.body=some c){N:Nat}(hN:fn.ntmps=N)(hl:args.length≤N)
  (hd:zbk am T c=true)(h:XC P G T N tag0 am c (zBh P fn R) ⟨frL (zg8 0 args),H,n⟩):zav P G f args H n R:=
 zgZ hcall hf hb hN hl (by rw[zez];exact zkl hm hT _ _ _ hd h)
end
end Go.Abs
namespace Go.Abs
open Go
class Kn (α:Type) where
 run:α→Prop
class Ko (α β:Type) where
 run:α→Option β
class Kp where
 p:Prop
class Kd where
 run:D→zas→Nat→Prop
class Ke where
 run:Exit→St→Prop
def zvW:List FD→D
 |[]=> .junk
 |x::xs=> .rp (x::xs)
def BiK {α:Type}(r:Option α)[k:Kn α]:Prop:=Bi r k.run
def obK {α β:Type}(r:Option α)[k:Ko α β]:Option β:=ob r k.run
def zaH (c:Prop)[k:Kp]:Prop:=Req c k.p
def zgX (b:Bool)[k:Kp]:Prop:=Chk b k.p
def zaB (b:Bool)[x:Kp][y:Kp]:Prop:=zdn b x.p y.p
def VvK (N:Nat)(r:Option (D×Prop))(st:St)(dst:Option Tmp)[k:Kn St]:Prop:=Vv N r st dst k.run
def XOK (P:Program)(G:Nat→List FD)(T:Tbl)(N tag0:Nat)(am:Nat→Bool)(st:St)(dst:Option Tmp)(o:Op)[k:Kn St]:Prop:=XO P G T N tag0 am st k.run dst o
def zja (P:Program)(N:Nat)(op:BinOp)(t:TypeId)(x:D)(st:St)(dst:Option Tmp)[k:Kn St]:Prop:=zw0 P N op t x st dst k.run
def zio (P:Program)(G:Nat→List FD)(N:Nat)(g:FuncId)(args:List D)(st:St)(dst:Option Tmp)(r:Option (List FD→Option (D×Prop)))[k:Kn St]:Prop:=zx6 P G N g args st dst k.run r
def zg1 (te:TI)(s:Nat×List D×Prop)(tag:Nat)(st:St)(dst:Option Tmp)(x:D)[k:Kn St]:Prop:=zvq te s tag st dst k.run x
def zg2 (te:TI)(tag:Nat)(om:Bool)(y x:D)(st:St)(dst:Option Tmp)[k:Kn St]:Prop:=zx3 te tag om st dst k.run y x
def zou (P:Program)(G:Nat→List FD)(N tag:Nat)(am om:Bool)(args:List Operand)(ts:List TypeId)(st:St)(dst:Option Tmp)[k:Kn St]:Prop:=zzQ P G N tag am om args ts st dst k.run
def zfe (P:Program)(G:Nat→List FD)(T:Tbl)(N tag:Nat)(am om:Bool)(args:Array Operand)(ts:Array TypeId)(st:St)(dst:Option Tmp)(c:Callee)[k:Kn St]:Prop:=zp2 P G T N tag am om args ts st dst k.run c
def zgc (P:Program)(G:Nat→List FD)(T:Tbl)(N tag0:Nat)(am:Nat→Bool)(ops:Array Oper)(os:List Oper)(st:St)[k:Kn St]:Prop:=zkf P G T N tag0 am ops os k.run st
def XCK (P:Program)(G:Nat→List FD)(T:Tbl)(N tag0:Nat)(am:Nat→Bool)(c:Code)(st:St)[q:Ke]:Prop:=XC P G T N tag0 am c q.run st
def zoI (d:D)[x:Kp][y:Kp]:Prop:=zqD x.p y.p d
def zu5 (e:Exit)(st:St)[r:Kn St][q:Ke]:Prop:=zDf r.run q.run e st
def zfh (id:Nat)(e:Exit)(st:St)[q:Ke]:Prop:=zha id q.run e st
def zvi (P:Program)(fn:Func)(e:Exit)(st:St)[r:Kd]:Prop:=zBh P fn r.run e st
def zaD (P:Program)(G:Nat→List FD)(f:FuncId)(args:List D)(H:zas)(n:Nat)[r:Kd]:Prop:=zav P G f args H n r.run
def WK (P:Program)(G:Nat→List FD)(N:Nat)(c:Code)(st:St)[q:Ke]:Prop:=W P G N c q.run st
@[go_sem] theorem zHo {α:Type}{a:α}{k:α→Prop}:@BiK α (some a) ⟨k⟩=k a:=(rfl)
@[go_sem] theorem zHz {α β:Type}{a:α}{k:α→Option β}:@obK α β (some a) ⟨k⟩=k a:=(rfl)
@[go_sem] theorem zF7 {k:Prop}:@zaH True ⟨k⟩=k:=zsT
@[go_sem] theorem zF6 {k:Prop}:@zgX true ⟨k⟩=k:=zsP
@[go_sem] theorem zHt {x y:Prop}:@zaB true ⟨x⟩ ⟨y⟩=x:=zoo
@[go_sem] theorem zHq {x y:Prop}:@zaB false ⟨x⟩ ⟨y⟩=y:=zme
@[go_sem] theorem zHr {b:Bool}{x y:Prop}:@zaB (!b) ⟨x⟩ ⟨y⟩=@zaB b ⟨y⟩ ⟨x⟩:=by
 cases b<;>simp[zaB,zdn]
@[go_sem] theorem zHs {a b:Bool}{x y:Prop}:@zaB (a||b) ⟨x⟩ ⟨y⟩=@zaB a ⟨x⟩ ⟨@zaB b ⟨x⟩ ⟨y⟩⟩:=by
 cases a<;>simp[zaB,zdn]
@[go_sem] theorem zHp {a b:Bool}{x y:Prop}:@zaB (a&&b) ⟨x⟩ ⟨y⟩=@zaB a ⟨@zaB b ⟨x⟩ ⟨y⟩⟩ ⟨y⟩:=by
 cases a<;>simp[zaB,zdn]
theorem zaH.i {c k:Prop}(h:c)(h':c→k):@zaH c ⟨k⟩:=⟨h,h' h⟩
theorem zaB.i {b:Bool}{x y:Prop}(h:b=true→x)(h':b=false→y):@zaB b ⟨x⟩ ⟨y⟩:=⟨h,h'⟩
theorem zaB.d {p:Prop}[Decidable p]{x y:Prop}(h:p→x)(h':¬p→y):@zaB (decide p) ⟨x⟩ ⟨y⟩:=⟨fun e=>h (by simpa using e),fun e=>h' (by simpa using e)⟩
attribute [go_sem] ztz zvT zt1 zt0 zzr zGW zGX zDg zyp ztv zvL zmu zoJ zjk zoK zmv zul zsw zoR zoQ zz3
attribute [go_sem] Option.bind_some zg8 D.toFD D.toFDs
attribute [go_sem] decide_true decide_false Bool.and_true Bool.true_and Bool.and_false Bool.false_and Bool.or_true Bool.true_or Bool.or_false Bool.false_or Bool.not_true Bool.not_false beq_self_eq_true and_true true_and or_true true_or or_false false_or and_false false_and not_true_eq_false not_false_eq_true if_true if_false ne_eq Bool.false_eq_true eq_self implies_true Bool.not_not beq_true beq_false Bool.not_eq_true Bool.not_eq_false forall_const
attribute [go_sem] Prod.mk.injEq List.getD_cons_zero List.getD_cons_succ List.getElem?_cons_zero List.getElem?_cons_succ List.take_succ_cons List.take_zero List.drop_succ_cons List.drop_zero List.take_nil List.drop_nil List.length_cons List.length_nil List.map_cons List.map_nil List.all_cons List.all_nil List.getElem?_toArray Option.map_some Option.map_none Option.isSome_some Option.getD_some Option.getD_none List.cons_append List.nil_append List.append_nil List.map_map
@[go_sem] theorem zwm {α:Type}{l:List α}:(List.toArray l).toList=l:=rfl
@[go_sem] theorem zmM:IntKind.min .i64= -9223372036854775808:=rfl
@[go_sem] theorem zmL:IntKind.max .i64=9223372036854775807:=rfl
@[go_sem] theorem zFF:IntKind.min .u8=0:=rfl
@[go_sem] theorem zFE:IntKind.max .u8=255:=rfl
@[go_sem] theorem zBP:IntKind.min .i32= -2147483648:=rfl
@[go_sem] theorem zBO:IntKind.max .i32=2147483647:=rfl
@[go_sem] theorem zDm:IntKind.min .u64=0:=rfl
@[go_sem] theorem zDl:IntKind.max .u64=18446744073709551615:=rfl
@[go_sem] theorem zzn {α:Type}{l:List α}:(List.toArray l).size=l.length:=rfl
section
variable {P:Program} {G:Nat→List FD} {T:Tbl} {N tag0 tag:Nat} {am:Nat→Bool} {ab ob2:Bool} {st:St} {k:St→Prop} {q:Exit→St→Prop} {kr:D→zas→Nat→Prop} {dst:Option Tmp} {ops:Array Oper} {os:List Oper} {o:Oper} {x y z f a:Operand} {t u:TypeId} {args:Array Operand} {ts:Array TypeId}
@[go_sem] theorem zHu {r:Option (D×Prop)}:@VvK N r st dst ⟨k⟩=@BiK _ r ⟨fun dc=>@zgX (zaS N dst) ⟨@zaH dc.2 ⟨k (st.put dst dc.1)⟩⟩⟩:=(rfl)
@[go_sem] theorem zAQ:@XOK P G T N tag0 am st dst (.move x) ⟨k⟩=@zgX (zaS N dst) ⟨k (st.put dst (st.ev G x))⟩:=(rfl)
@[go_sem] theorem zxG:@XOK P G T N tag0 am st dst (.assign x) ⟨k⟩=@zgX (zaS N dst) ⟨k (st.put dst (st.ev G x))⟩:=(rfl)
@[go_sem] theorem zAR:@XOK P G T N tag0 am st dst (.pick x y z) ⟨k⟩=@VvK N (zfp (st.ev G x) (st.ev G y) (st.ev G z)) st dst ⟨k⟩:=(rfl)
@[go_sem] theorem zzd {ps:Array (Nat×Operand)}:@XOK P G T N tag0 am st dst (.build t ps) ⟨k⟩=@zgX (ps.toList.all fun p=>(st.ev G p.2).known) ⟨@VvK N (zed P t (ps.toList.map fun p=>(p.1,st.ev G p.2))) st dst ⟨k⟩⟩:=(rfl)
@[go_sem] theorem zAO:@XOK P G T N tag0 am st dst (.load t a) ⟨k⟩=@VvK N (zeh P st.H t (st.ev G a)) st dst ⟨k⟩:=(rfl)
@[go_sem] theorem zC1:@XOK P G T N tag0 am st dst (.nilCheck x) ⟨k⟩=@VvK N (zmy (st.ev G x)) st dst ⟨k⟩:=(rfl)
@[go_sem] theorem zCZ {op:BinOp}:@XOK P G T N tag0 am st dst (.binOp op t x y u) ⟨k⟩=@zaB (zdF y) ⟨@zja P N op t (st.ev G x) st dst ⟨k⟩⟩ ⟨@VvK N (zc5 P op t (st.ev G x) (st.ev G y)) st dst ⟨k⟩⟩:=by
 simp only[XOK,XO,zaB,zdn,zja,VvK]
 cases zdF y<;>simp
@[go_sem] theorem zEB {op:UnOp}:@XOK P G T N tag0 am st dst (.unOp op t x) ⟨k⟩=@VvK N (zvJ op (st.ev G x)) st dst ⟨k⟩:=(rfl)
@[go_sem] theorem zAN:@XOK P G T N tag0 am st dst (.convert t u x) ⟨k⟩=@VvK N (zdi P t u (st.ev G x)) st dst ⟨k⟩:=(rfl)
@[go_sem] theorem zEA {g:FuncId}{first caps:Array Operand}:@XOK P G T N tag0 am st dst (.makeFunc (.func g) first caps) ⟨k⟩=@zgX (first.size==0&&zaS N dst) ⟨k (st.put dst (.fn g (caps.toList.map (st.ev G))))⟩:=(rfl)
@[go_sem] theorem zze {lo hi mx:Option Operand}:@XOK P G T N tag0 am st dst (.slice t x lo hi mx) ⟨k⟩=@VvK N (zaF P t (st.ev G x) (lo.map (st.ev G)) (hi.map (st.ev G)) (mx.map (st.ev G))) st dst ⟨k⟩:=(rfl)
@[go_sem] theorem zEw {i:Nat}:@XOK P G T N tag0 am st dst (.fieldAddr t x i) ⟨k⟩=@VvK N (zbF P t (st.ev G x) i) st dst ⟨k⟩:=(rfl)
@[go_sem] theorem zEx {i:Nat}:@XOK P G T N tag0 am st dst (.field t x i) ⟨k⟩=@VvK N (zee P t (st.ev G x) i) st dst ⟨k⟩:=(rfl)
@[go_sem] theorem zEy:@XOK P G T N tag0 am st dst (.indexAddr t x y) ⟨k⟩=@VvK N (zbG P t (st.ev G x) (st.ev G y)) st dst ⟨k⟩:=(rfl)
@[go_sem] theorem zEz:@XOK P G T N tag0 am st dst (.index t x y) ⟨k⟩=@VvK N (zeg P t (st.ev G x) (st.ev G y)) st dst ⟨k⟩:=(rfl)
@[go_sem] theorem zEv {i:Nat}:@XOK P G T N tag0 am st dst (.extract x i) ⟨k⟩=@VvK N (zc6 (st.ev G x) i) st dst ⟨k⟩:=(rfl)
@[go_sem] theorem zAM {c:Call}:@XOK P G T N tag0 am st dst (.call c) ⟨k⟩=@zfe P G T N (tag0+dst.getD 0) (am (dst.getD 0)) (am (2000000+dst.getD 0)) c.args c.argTypes st dst c.callee ⟨k⟩:=(rfl)
@[go_sem] theorem zzc:@XOK P G T N tag0 am st dst (.alloc t) ⟨k⟩=@BiK _ (zaq P t) ⟨fun ti=>@zgX (zaS N dst) ⟨k (st.new (tag0+dst.getD 0,st.n) ⟨ti.zero,true,false⟩ dst (.ptr (tag0+dst.getD 0,st.n) 0))⟩⟩:=(rfl)
@[go_sem] theorem zC0:@XOK P G T N tag0 am st dst (.box t x) ⟨k⟩=@zgX (zaS N dst&&(st.ev G x).known) ⟨k (st.new (tag0+dst.getD 0,st.n) ⟨(st.ev G x).cs,true,false⟩ dst (.ptr (tag0+dst.getD 0,st.n) 0))⟩:=(rfl)
@[go_sem] theorem zAP:@XOK P G T N tag0 am st dst (.makeSlice t x y) ⟨k⟩=@BiK _ (zau P t) ⟨fun te=>@BiK _ (zmN (st.ev G x)) ⟨fun n=>@BiK _ (zmN (st.ev G y)) ⟨fun m=>@zgX (zaS N dst) ⟨@zaH (m=n∧0≤n∧n.toNat≤zaZ∧te.bytes*n≤2^48) ⟨k (st.new (tag0+dst.getD 0,st.n) ⟨(List.range (n.toNat*te.size)).map fun j=>te.zero.getD (j % te.size) .junk,false,false⟩ dst (.arr (tag0+dst.getD 0,st.n) te.size 0 n.toNat))⟩⟩⟩⟩⟩:=(rfl)
@[go_sem] theorem zEu {n:Nat}{ps:Array (Nat×Operand)}:@XOK P G T N tag0 am st dst (.buildSlice t n ps) ⟨k⟩=@zaB (am (dst.getD 0)) ⟨@BiK _ (zau P t) ⟨fun te=>@zgX (zaS N dst&&ps.toList.all fun p=>zun te.size (st.ev G p.2)) ⟨@zaH (ps.toList.map (·.1)=List.range n∧n≤2^24∧n*te.size≤2^24) ⟨k (st.new (tag0+dst.getD 0,st.n) ⟨ps.toList.flatMap fun p=>(st.ev G p.2).cs,false,false⟩ dst (.arr (tag0+dst.getD 0,st.n) te.size 0 n))⟩⟩⟩⟩ ⟨@VvK N (zb5 P t n (ps.toList.map (·.1)) (ps.toList.map fun p=>st.ev G p.2)) st dst ⟨k⟩⟩:=by
 simp only[XOK,XO,zaB,zdn,VvK,zkk,BiK,zgX,zaH]
 cases am (dst.getD 0)<;>simp
@[go_sem] theorem zzf:@XOK P G T N tag0 am st dst (.store t a x) ⟨k⟩=@BiK _ (zaq P t) ⟨fun ti=>@BiK _ (ztZ (st.ev G a)) ⟨fun p=>@BiK _ (st.H p.1) ⟨fun o=>@zaH (dst=none∧o.virt=false∧(st.ev G x).known=true∧(st.ev G x).cs.all zcJ=true∧(st.ev G x).cs.length=ti.size∧p.2+ti.size≤o.cells.length) ⟨k {st with H:=zaM st.H p.1 (some {o with cells:=zcT o.cells p.2 (st.ev G x).cs})}⟩⟩⟩⟩:=(rfl)
@[go_sem] theorem zB8:@zfe P G T N tag ab ob2 args ts st dst (.value f) ⟨k⟩=@BiK _ (zyr (st.ev G f)) ⟨fun gc=>@zio P G N gc.1 (args.toList.map (st.ev G)++gc.2) st dst (T gc.1) ⟨k⟩⟩:=(rfl)
@[go_sem] theorem zB4:@zfe P G T N tag ab ob2 args ts st dst (.builtin .append) ⟨k⟩=@zou P G N tag ab ob2 args.toList ts.toList st dst ⟨k⟩:=(rfl)
@[go_sem] theorem zB5:@zfe P G T N tag ab ob2 args ts st dst (.builtin .len) ⟨k⟩=@VvK N (zaN P .len ts (args.toList.map (st.ev G))) st dst ⟨k⟩:=(rfl)
@[go_sem] theorem zB6:@zfe P G T N tag ab ob2 args ts st dst (.builtin .max) ⟨k⟩=@VvK N (zaN P .max ts (args.toList.map (st.ev G))) st dst ⟨k⟩:=(rfl)
@[go_sem] theorem zB7:@zfe P G T N tag ab ob2 args ts st dst (.builtin .min) ⟨k⟩=@VvK N (zaN P .min ts (args.toList.map (st.ev G))) st dst ⟨k⟩:=(rfl)
@[go_sem] theorem zBZ:@zou P G N tag true ob2 [x,y] [t,u] st dst ⟨k⟩=@BiK _ (zau P t) ⟨fun te=>@BiK _ (zaq P u) ⟨fun ui=>@zgX (zaS N dst&&ui.isSlice) ⟨@zg2 te tag ob2 (st.ev G y) (st.ev G x) st dst ⟨k⟩⟩⟩⟩:=(rfl)
@[go_sem] theorem zyG {te:TI}{d:D}{id:Id}{es:Nat}{xs:List FD}:@zg2 te tag ob2 d (.ow id es xs) st dst ⟨k⟩=@BiK _ (zsN st.H te d) ⟨fun yc=>@BiK _ (st.H id) ⟨fun _=>@zaH (es=te.size∧zbi xs te.size∧yc.2∧(zag yc.1).all zcJ=true∧fits (xs.length+yc.1.length) te.bytes)
   ⟨k (({st with H:=zaM st.H id none}:St).new (tag,st.n) tok dst (.ow (tag,st.n) te.size (xs++yc.1)))⟩⟩⟩:=(rfl)
@[go_sem] theorem zv4 {te:TI}{d:D}{xs:List FD}:@zg2 te tag ob2 d (.full xs) st dst ⟨k⟩=@zaB ob2 ⟨@BiK _ (zsN st.H te d) ⟨fun yc=>@zaH (zbi xs te.size∧yc.2∧fits (xs.length+yc.1.length) te.bytes) ⟨k (st.new (tag,st.n) tok dst (.ow (tag,st.n) te.size (xs++yc.1)))⟩⟩⟩
   ⟨@BiK _ (zbm st.H te d) ⟨fun s=>@zg1 te s tag st dst (.full xs) ⟨k⟩⟩⟩:=(rfl)
@[go_sem] theorem zxD {H:zas}{te:TI}{id:Id}{es b len:Nat}:zsN H te (.arr id es b len)=@obK _ _ (H id) ⟨fun o=>@obK _ _ (zuj ((o.cells.drop b).take (len*te.size))) ⟨fun ys=>some (ys,te.size=1∧es=te.size∧b+len*te.size≤o.cells.length)⟩⟩:=(rfl)
@[go_sem] theorem zy6 {H:zas}{te:TI}{ys:List FD}:zsN H te (.fz (.sl ys))=some (ys,zbi ys te.size):=(rfl)
@[go_sem] theorem zwi {H:zas}{te:TI}{ys:List FD}:zsN H te (.full ys)=some (ys,zbi ys te.size):=(rfl)
@[go_sem] theorem zy5 {H:zas}{te:TI}{id:Id}{es:Nat}{ys:List FD}:zsN H te (.ow id es ys)=some (ys,zbi ys te.size):=(rfl)
@[go_sem] theorem zxl {te:TI}{d:D}{id:Id}{es b len:Nat}:@zg2 te tag ob2 d (.arr id es b len) st dst ⟨k⟩=@BiK _ (zbm st.H te d) ⟨fun s=>@zg1 te s tag st dst (.arr id es b len) ⟨k⟩⟩:=(rfl)
@[go_sem] theorem zBY:@zou P G N tag false ob2 [x,y] [t,u] st dst ⟨k⟩=@VvK N (zeE P t u (st.ev G x) (st.ev G y)) st dst ⟨k⟩:=(rfl)
@[go_sem] theorem zCY {g:FuncId}{ds:List D}{tf:List FD→Option (D×Prop)}:@zio P G N g ds st dst (some tf) ⟨k⟩=@BiK _ (D.toFDs ds) ⟨fun xs=>@VvK N (tf xs) st dst ⟨k⟩⟩:=(rfl)
@[go_sem] theorem zCX {g:FuncId}{ds:List D}:@zio P G N g ds st dst none ⟨k⟩=@zgX (zaS N dst) ⟨@zaD P G g ds st.H st.n ⟨fun d H n=>k (({st with H:=H,n:=n}:St).put dst d)⟩⟩:=(rfl)
@[go_sem] theorem zDQ {te:TI}{s:Nat×List D×Prop}{xs:List FD}:@zg1 te s tag st dst (.full xs) ⟨k⟩=@zaH (s.2.2∧zbi xs te.size∧0<te.size∧(0<s.1∨xs=[])∧fits (xs.length+s.1) te.bytes) ⟨k (st.new (tag,st.n) ⟨zag xs++s.2.1,false,(zag xs++s.2.1).isEmpty⟩ dst (.arr (tag,st.n) te.size 0 (xs.length+s.1)))⟩:=(rfl)
@[go_sem] theorem zDP {te:TI}{s:Nat×List D×Prop}{id:Id}{es b len:Nat}:@zg1 te s tag st dst (.arr id es b len) ⟨k⟩=@BiK _ (st.H id) ⟨fun o=>@zaH (s.2.2∧es=te.size∧b+len*te.size≤o.cells.length∧s.2.1.all zcJ=true∧0<te.size∧fits (len+s.1) te.bytes) ⟨k (({st with H:=zaM st.H id none}:St).new (tag,st.n) ⟨(o.cells.drop b).take (len*te.size)++s.2.1,false,o.virt&&((o.cells.drop b).take (len*te.size)++s.2.1).isEmpty⟩ dst (.arr (tag,st.n) te.size 0 (len+s.1)))⟩⟩:=(rfl)
@[go_sem] theorem zAJ:@zgc P G T N tag0 am ops [] st ⟨k⟩=k st:=(rfl)
@[go_sem] theorem zy7:@zgc P G T N tag0 am ops (o::os) st ⟨k⟩=@BiK _ (zlf ops st.fr o.guard) ⟨fun b=>@zaB b ⟨@XOK P G T N tag0 am st o.dst o.op ⟨fun st=>@zgc P G T N tag0 am ops os st ⟨k⟩⟩⟩ ⟨@zgX (zaS N o.dst) ⟨@zgc P G T N tag0 am ops os (st.put o.dst (.tup [])) ⟨k⟩⟩⟩⟩:=(rfl)
@[go_sem] theorem zyL:@XCK P G T N tag0 am (.skip) st ⟨q⟩=q .normal st:=(rfl)
@[go_sem] theorem zAa {c d:Code}:@XCK P G T N tag0 am (.seq c d) st ⟨q⟩=@XCK P G T N tag0 am c st ⟨fun e st=>@zu5 e st ⟨fun st=>@XCK P G T N tag0 am d st ⟨q⟩⟩ ⟨q⟩⟩:=(rfl)
@[go_sem] theorem zyH {c d:Code}:@XCK P G T N tag0 am (.cond x c d) st ⟨q⟩=@zoI (st.ev G x) ⟨@XCK P G T N tag0 am c st ⟨q⟩⟩ ⟨@XCK P G T N tag0 am d st ⟨q⟩⟩:=(rfl)
@[go_sem] theorem zxm {i:Nat}{c:Code}:@XCK P G T N tag0 am (.block i c) st ⟨q⟩=@XCK P G T N tag0 am c st ⟨fun e st=>@zfh i e st ⟨q⟩⟩:=(rfl)
@[go_sem] theorem zyJ {i:Nat}:@XCK P G T N tag0 am (.exit i) st ⟨q⟩=q (.exit i) st:=(rfl)
@[go_sem] theorem zz9:@XCK P G T N tag0 am (.ret) st ⟨q⟩=q .ret st:=(rfl)
@[go_sem] theorem zv5 {i:Nat}:@XCK P G T N tag0 am (.region i ops false) st ⟨q⟩=@zgc P G T N tag0 am ops ops.toList st ⟨q .normal⟩:=(rfl)
@[go_sem] theorem zyI {i:Nat}:@XCK P G T N tag0 am (.region i ops true) st ⟨q⟩=@zaB (am (1000000+i)) ⟨@WK P G N (.region i ops true) st ⟨q⟩⟩ ⟨@zgc P G T N tag0 am ops ops.toList st ⟨q .normal⟩⟩:=(rfl)
@[go_sem] theorem zyK {c:Code}:@XCK P G T N tag0 am (.loop c) st ⟨q⟩=@WK P G N (.loop c) st ⟨q⟩:=(rfl)
@[go_sem] theorem zCb {b:Bool}{p1 p2:Prop}:@zoI (.fz (.b b)) ⟨p1⟩ ⟨p2⟩=@zaB b ⟨p1⟩ ⟨p2⟩:=(rfl)
@[go_sem] theorem zEm:@zu5 .normal st ⟨k⟩ ⟨q⟩=k st:=(rfl)
@[go_sem] theorem zEl {i:Nat}:@zu5 (.exit i) st ⟨k⟩ ⟨q⟩=q (.exit i) st:=(rfl)
@[go_sem] theorem zEn:@zu5 .ret st ⟨k⟩ ⟨q⟩=q .ret st:=(rfl)
@[go_sem] theorem zDR {i j:Nat}:@zfh j (.exit i) st ⟨q⟩=@zaB (i==j) ⟨q .normal st⟩ ⟨q (.exit i) st⟩:=by
 simp only[zfh,zha,zaB,zdn]
 by_cases h:i=j<;>simp[h]
@[go_sem] theorem zDS {j:Nat}:@zfh j .normal st ⟨q⟩=q .normal st:=(rfl)
@[go_sem] theorem zDT {j:Nat}:@zfh j .ret st ⟨q⟩=q .ret st:=(rfl)
@[go_sem] theorem zEj {fn:Func}:@zvi P fn .normal st ⟨kr⟩=@BiK _ (zdX P st fn.results.toList) ⟨fun dc=>@zaH dc.2 ⟨kr (one dc.1) st.H st.n⟩⟩:=zpY
@[go_sem] theorem zEk {fn:Func}:@zvi P fn .ret st ⟨kr⟩=@BiK _ (zdX P st fn.results.toList) ⟨fun dc=>@zaH dc.2 ⟨kr (one dc.1) st.H st.n⟩⟩:=zpY
attribute [go_sem] zrP zpv zrQ
@[go_sem] theorem zEi {r:ResultVar}{rs:List ResultVar}:zdX P st (r::rs)=@obK _ _ (zjT P st r) ⟨fun a=>@obK _ _ (zdX P st rs) ⟨fun b=>some (a.1::b.1,a.2∧b.2)⟩⟩:=zpw
@[go_sem] theorem zEg {d:D}:one [d]=d:=rfl
@[go_sem] theorem zEf:one []= .tup []:=rfl
@[go_sem] theorem zEh {d e:D}{ds:List D}:one (d::e::ds)= .tup (d::e::ds):=rfl
@[go_sem] theorem zHx {fr:Nat→D}:zlf ops fr none=some true:=rfl
@[go_sem] theorem zHy {fr:Nat→D}{jw:Nat×Bool}:zlf ops fr (some jw)=@obK _ _ ((ops[jw.1]?).bind (·.dst)) ⟨fun t=>gv2 jw.2 (fr t)⟩:=rfl
@[go_sem] theorem zHv {b c:Bool}:gv2 c (.fz (.b b))=some (b==c):=rfl
@[go_sem] theorem zHw {c:Bool}:gv2 c (.tup [])=some false:=rfl
@[go_sem] theorem zv8 {g:Nat}:St.ev G st (.global g)=zvW (G g):=rfl
end
section
variable {P:Program} {xs ys:List FD} {ds es':List D} {id:Id} {k es s len f i off size n':Nat} {x:FD} {b c:Bool} {n m:Int} {kd kd':IntKind} {l l':List UInt8} {H:zas} {ti:TI} {agg:Bool} {p q:Prop} {caps:List D} {d e:D} {t u:TypeId} {op:BinOp} {lo hi:Option D}
@[go_sem] theorem zAu:zdF (.tmp k)=false:=rfl
@[go_sem] theorem zAt:zdF (.const (.int kd n))=false:=rfl
@[go_sem] theorem zEa:zdF (.const (.bool b))=false:=rfl
@[go_sem] theorem zEe {a:ByteArray}:zdF (.const (.string a))=false:=rfl
@[go_sem] theorem zEc:zdF (.global k)=false:=rfl
@[go_sem] theorem zEb:zdF (.func k)=false:=rfl
@[go_sem] theorem zEd:zdF (.const (.slice none 0 0))=true:=rfl
@[go_sem] theorem zCE:zdF (.const .nilFunc)=false:=rfl
@[go_sem] theorem zCH:ztZ (.ptr id k)=some (id,k):=rfl
@[go_sem] theorem zD7:zyr (.fn f caps)=some (f,caps):=rfl
@[go_sem] theorem zCy:zmN (.fz (.i kd n))=some n:=rfl
@[go_sem] theorem zAj:zeh P H t d=@obK _ _ (zaq P t) ⟨fun ti=>zxH ti H d⟩:=zhq
@[go_sem] theorem zCz:zxH ti H (.rp xs)=some (if ti.agg then .fz (.agg (xs.take ti.size))else .fz (xs.getD 0 .nilf),ti.size≤xs.length∧(ti.agg=false→ti.size=1)):=rfl
@[go_sem] theorem zAq:zxH ti H (.ptr id k)=@obK _ _ (H id) ⟨fun o=>some (if ti.agg then .agg ((o.cells.drop k).take ti.size)else o.cells.getD k .junk,k+ti.size≤o.cells.length∧o.virt=false∧(ti.agg=false→ti.size=1))⟩:=rfl
@[go_sem] theorem zD0:zbF P t d i=@obK _ _ (zaq P t) ⟨fun ti=>@obK _ _ (fieldsOf ti.und i) ⟨fun f=>@obK _ _ (zaq P f.2) ⟨fun fi=>faD f.1 fi.size d⟩⟩⟩:=zic
@[go_sem] theorem zAl {fs:List (Nat×TypeId)}:fieldsOf (.struct fs) i=fs[i]?:=rfl
@[go_sem] theorem zAk:faD off size (.ptr id k)=some (.ptr id (k+off),size≠0):=rfl
@[go_sem] theorem zCi:faD off size (.rp xs)=some (.rp (xs.drop off),size≠0):=rfl
@[go_sem] theorem zF8:zee P t d i=@obK _ _ (zaq P t) ⟨fun ti=>@obK _ _ (fieldsOf ti.und i) ⟨fun f=>@obK _ _ (zaq P f.2) ⟨fun fi=>fD f.1 fi.size fi.agg d⟩⟩⟩:=zo0
@[go_sem] theorem zCh:fD off size agg (.agg ds)=some (if agg then .agg ((ds.drop off).take size)else ds.getD off .junk,off+size≤ds.length∧(agg=false→size=1)):=rfl
@[go_sem] theorem zD5:fD off size agg (.fz (.agg xs))=some (if agg then .fz (.agg ((xs.drop off).take size))else .fz (xs.getD off .nilf),off+size≤xs.length∧(agg=false→size=1)):=rfl
@[go_sem] theorem zAi:zau P t=@obK _ _ (zaq P t) ⟨fun ti=>@obK _ _ (zqO ti.und) ⟨fun e=>zaq P e⟩⟩:=zqP
@[go_sem] theorem zAh:zqO (.slice t)=some t:=rfl
@[go_sem] theorem zD1:zbG P t d e=@obK _ _ (zau P t) ⟨fun te=>iaD te.size d e⟩:=zie
@[go_sem] theorem zCx:iaD size (.fz (.sl xs)) (.fz (.i kd n))=some (.rp (xs.getD n.toNat .nilf).cells,0≤n∧n<xs.length∧(xs.getD n.toNat .nilf).cells.length=size):=rfl
@[go_sem] theorem zyX:iaD size (.full xs) (.fz (.i kd n))=some (.rp (xs.getD n.toNat .nilf).cells,0≤n∧n<xs.length∧(xs.getD n.toNat .nilf).cells.length=size):=rfl
@[go_sem] theorem zCw:iaD size (.ow id es xs) (.fz (.i kd n))=some (.rp (xs.getD n.toNat .nilf).cells,0≤n∧n<xs.length∧(xs.getD n.toNat .nilf).cells.length=size):=rfl
@[go_sem] theorem zAp:iaD size (.arr id es s len) (.fz (.i kd n))=some (.ptr id (s+n.toNat*es),0≤n∧n<len∧es=size):=rfl
@[go_sem] theorem zD2:zeg P t (.fz (.s l)) (.fz (.i kd n))=@obK _ _ (zaq P t) ⟨fun ti=>if ti.isStr then some (.fz (.i .u8 ((l.getD n.toNat 0).toNat:Int)),0≤n∧n<l.length)else none⟩:=zo3
@[go_sem] theorem zCg:zk5 P t d=@obK _ _ (zaq P t) ⟨fun ti=>zwk ti.isStr ti.isSlice d⟩:=ztr
@[go_sem] theorem zCA:zwk true c (.fz (.s l))=some (.fz (.i .i64 l.length),True):=rfl
@[go_sem] theorem zAs:zwk b true (.fz (.sl xs))=some (.fz (.i .i64 xs.length),True):=rfl
@[go_sem] theorem zxu:zwk b true (.full xs)=some (.fz (.i .i64 xs.length),True):=rfl
@[go_sem] theorem zAr:zwk b true (.ow id es xs)=some (.fz (.i .i64 xs.length),True):=rfl
@[go_sem] theorem zyY:zwk b true (.arr id es s len)=some (.fz (.i .i64 len),True):=rfl
@[go_sem] theorem zB0 {ts:Array TypeId}:zaN P .len ts [d]=@obK _ _ ts[0]? ⟨fun t=>zk5 P t d⟩:=zjn
@[go_sem] theorem zB1 {ts:Array TypeId}:zaN P .max ts [.fz (.i kd n),.fz (.i kd' m)]=some (.fz (.i kd (max n m)),kd=kd'):=zjo
@[go_sem] theorem zB2 {ts:Array TypeId}:zaN P .min ts [.fz (.i kd n),.fz (.i kd' m)]=some (.fz (.i kd (min n m)),kd=kd'):=zjp
@[go_sem] theorem zAI:zbm H ti (.fz (.sl xs))=some (xs.length,zag xs,zbi xs ti.size):=rfl
@[go_sem] theorem zxC:zbm H ti (.full xs)=some (xs.length,zag xs,zbi xs ti.size):=rfl
@[go_sem] theorem zAH:zbm H ti (.ow id es xs)=some (xs.length,zag xs,zbi xs ti.size):=rfl
@[go_sem] theorem zCS:zaF P t (.ow id es xs) lo hi none=@obK _ _ (zau P t) ⟨fun te=>@obK _ _ (zbw lo) ⟨fun a=>@obK _ _ (zaT xs.length hi) ⟨fun b=>some (.fz (.sl (zbo xs a b)),0≤a∧a≤b∧b≤xs.length∧(a=0∨a=b∨(xs.getD a.toNat .nilf).cells.length=te.size))⟩⟩⟩:=zo6
@[go_sem] theorem zAE:zaF P t (.ow id es xs) lo (some d) (some (.fz (.i kd m)))=@obK _ _ (zau P t) ⟨fun te=>@obK _ _ (zbw lo) ⟨fun a=>@obK _ _ (zaT xs.length (some d)) ⟨fun b=>some (.full (zbo xs a b),0≤a∧a≤b∧b≤xs.length∧m=b∧(a=0∨a=b∨(xs.getD a.toNat .nilf).cells.length=te.size))⟩⟩⟩:=zmA
@[go_sem] theorem zAG:zaF P t (.fz (.s l)) lo hi none=@obK _ _ (zaq P t) ⟨fun ti=>@obK _ _ (zbw lo) ⟨fun a=>@obK _ _ (zaT l.length hi) ⟨fun b=>if ti.isStr then some (.fz (.s ((l.take b.toNat).drop a.toNat)),0≤a∧a≤b∧b≤l.length)else none⟩⟩⟩:=zmC
@[go_sem] theorem zCT:zaF P t (.fz (.sl xs)) lo hi none=@obK _ _ (zau P t) ⟨fun te=>@obK _ _ (zbw lo) ⟨fun a=>@obK _ _ (zaT xs.length hi) ⟨fun b=>some (.fz (.sl (zbo xs a b)),0≤a∧a≤b∧b≤xs.length∧(a=0∨a=b∨(xs.getD a.toNat .nilf).cells.length=te.size))⟩⟩⟩:=zo7
@[go_sem] theorem zAF:zaF P t (.fz (.sl xs)) lo (some d) (some (.fz (.i kd m)))=@obK _ _ (zau P t) ⟨fun te=>@obK _ _ (zbw lo) ⟨fun a=>@obK _ _ (zaT xs.length (some d)) ⟨fun b=>some (.full (zbo xs a b),0≤a∧a≤b∧b≤xs.length∧m=b∧(a=0∨a=b∨(xs.getD a.toNat .nilf).cells.length=te.size))⟩⟩⟩:=zmB
@[go_sem] theorem zy2:zaF P t (.full xs) lo none none=@obK _ _ (zau P t) ⟨fun te=>@obK _ _ (zbw lo) ⟨fun a=>some (.full (zbo xs a xs.length),0≤a∧a≤xs.length∧(a=0∨a=xs.length∨(xs.getD a.toNat .nilf).cells.length=te.size))⟩⟩:=zk7
@[go_sem] theorem zxB:zaF P t (.full xs) lo (some d) none=@obK _ _ (zau P t) ⟨fun te=>@obK _ _ (zbw lo) ⟨fun a=>@obK _ _ (zaT xs.length (some d)) ⟨fun b=>some (.fz (.sl (zbo xs a b)),0≤a∧a≤b∧b≤xs.length∧(a=0∨a=b∨(xs.getD a.toNat .nilf).cells.length=te.size))⟩⟩⟩:=zjr
@[go_sem] theorem zxA:zaF P t (.full xs) lo (some d) (some (.fz (.i kd m)))=@obK _ _ (zau P t) ⟨fun te=>@obK _ _ (zbw lo) ⟨fun a=>@obK _ _ (zaT xs.length (some d)) ⟨fun b=>some (.full (zbo xs a b),0≤a∧a≤b∧b≤xs.length∧m=b∧(a=0∨a=b∨(xs.getD a.toNat .nilf).cells.length=te.size))⟩⟩⟩:=zjq
@[go_sem] theorem zAD:zaF P t (.arr id es s len) lo hi none=@obK _ _ (zau P t) ⟨fun te=>@obK _ _ (zbw lo) ⟨fun a=>@obK _ _ (zaT len hi) ⟨fun b=>some (.arr id es (s+a.toNat*es) (b-a).toNat,0≤a∧a≤b∧b≤len∧es=te.size)⟩⟩⟩:=zmz
@[go_sem] theorem zGc:zbw none=some 0:=rfl
@[go_sem] theorem zGd:zbw (some (.fz (.i kd n)))=some n:=rfl
@[go_sem] theorem zGa:zaT k none=some (k:Int):=rfl
@[go_sem] theorem zGb:zaT k (some (.fz (.i kd n)))=some n:=rfl
attribute [go_sem] ztk ztm
@[go_sem] theorem zz6:zc5 P op t (.fz (.b b)) (.fz (.b c))=@obK _ _ (zaq P t) ⟨fun ti=>if ti.isBool then zoE op (b==c) True else none⟩:=zth
@[go_sem] theorem zz8:zc5 P op t (.fz (.agg xs)) (.fz (.agg ys))=@obK _ _ (zaq P t) ⟨fun ti=>@obK _ _ (za1 ti.fund xs ys) ⟨fun rc=>if ti.eqok then zoE op rc.1 rc.2 else none⟩⟩:=ztj
@[go_sem] theorem zz5:zc5 P op t (.agg ds) (.fz (.agg ys))=@obK _ _ (D.toFDs ds) ⟨fun xs=>@obK _ _ (zaq P t) ⟨fun ti=>@obK _ _ (za1 ti.fund xs ys) ⟨fun rc=>if ti.eqok then zoE op rc.1 rc.2 else none⟩⟩⟩:=ztg
@[go_sem] theorem zz7:zc5 P op t (.fz (.agg xs)) (.agg ds)=@obK _ _ (D.toFDs ds) ⟨fun ys=>@obK _ _ (zaq P t) ⟨fun ti=>@obK _ _ (za1 ti.fund xs ys) ⟨fun rc=>if ti.eqok then zoE op rc.1 rc.2 else none⟩⟩⟩:=zti
@[go_sem] theorem zz4:zc5 P op t (.agg ds) (.agg es')=@obK _ _ (D.toFDs ds) ⟨fun xs=>@obK _ _ (D.toFDs es') ⟨fun ys=>@obK _ _ (zaq P t) ⟨fun ti=>@obK _ _ (za1 ti.fund xs ys) ⟨fun rc=>if ti.eqok then zoE op rc.1 rc.2 else none⟩⟩⟩⟩:=ztf
@[go_sem] theorem zB9:zoE .eql b p=some (.fz (.b b),p):=rfl
@[go_sem] theorem zCa:zoE .neq b p=some (.fz (.b (!b)),p):=rfl
@[go_sem] theorem zCj:zdd .add kd kd' n m=some (.fz (.i kd (n+m)),kd=kd'∧inK kd (n+m)):=rfl
@[go_sem] theorem zCv:zdd .sub kd kd' n m=some (.fz (.i kd (n-m)),kd=kd'∧inK kd (n-m)):=rfl
@[go_sem] theorem zCq:zdd .mul kd kd' n m=some (.fz (.i kd (n*m)),kd=kd'∧inK kd (n*m)):=rfl
@[go_sem] theorem zCs:zdd .quo kd kd' n m=some (.fz (.i kd (n / m)),kd=kd'∧0≤n∧0<m):=rfl
@[go_sem] theorem zCt:zdd .rem kd kd' n m=some (.fz (.i kd (n % m)),kd=kd'∧0≤n∧0<m):=rfl
@[go_sem] theorem zCl:zdd .eql kd kd' n m=some (.fz (.b (decide (n=m))),kd=kd'):=by
 have:(n==m)=decide (n=m):=by by_cases h:n=m<;>simp[h]
 simp only[zdd,this]
@[go_sem] theorem zCr:zdd .neq kd kd' n m=some (.fz (.b (!decide (n=m))),kd=kd'):=by
 have:(n !=m)= !decide (n=m):=by by_cases h:n=m<;>simp[h]
 simp only[zdd,this]
@[go_sem] theorem zCp:zdd .lss kd kd' n m=some (.fz (.b (decide (n<m))),kd=kd'):=rfl
@[go_sem] theorem zCo:zdd .leq kd kd' n m=some (.fz (.b (decide (n≤m))),kd=kd'):=rfl
@[go_sem] theorem zCn:zdd .gtr kd kd' n m=some (.fz (.b (decide (m<n))),kd=kd'):=rfl
@[go_sem] theorem zCm:zdd .geq kd kd' n m=some (.fz (.b (decide (m≤n))),kd=kd'):=rfl
@[go_sem] theorem zCu:zdd .shr kd kd' n m=some (.fz (.i kd (n / 2^m.toNat)),0≤n∧0≤m∧m.toNat≤kd.bits):=rfl
@[go_sem] theorem zCJ:zf1 .add l l'=some (.fz (.s (l++l')),l.length+l'.length≤zaZ):=rfl
@[go_sem] theorem zCO:zf1 .lss l l'=some (.fz (.b (Op.bytesLess l l')),True):=rfl
@[go_sem] theorem zCN:zf1 .leq l l'=some (.fz (.b (Op.bytesLess l l'||l==l')),True):=rfl
@[go_sem] theorem zCM:zf1 .gtr l l'=some (.fz (.b (!(Op.bytesLess l l'||l==l'))),True):=rfl
@[go_sem] theorem zCL:zf1 .geq l l'=some (.fz (.b (!Op.bytesLess l l')),True):=rfl
@[go_sem] theorem zCK:zf1 .eql l l'=some (.fz (.b (decide (l=l'))),True):=by
 have:(l==l')=decide (l=l'):=by by_cases h:l=l'<;>simp[h]
 simp only[zf1,this]
@[go_sem] theorem zCP:zf1 .neq l l'=some (.fz (.b (!decide (l=l'))),True):=by
 have:(l==l')=decide (l=l'):=by by_cases h:l=l'<;>simp[h]
 simp only[zf1,this]
@[go_sem] theorem zDX:zeV .bool (.b b) (.b c)=some (b==c,True):=rfl
@[go_sem] theorem zDY:zeV (.int kd) (.i kd n) (.i kd m)=some (decide (n=m),True):=by
 have:(n==m)=decide (n=m):=by by_cases h:n=m<;>simp[h]
 simp[zeV,this]
@[go_sem] theorem zDZ:zeV .str (.s l) (.s l')=some (decide (l=l'),True):=by
 have:(l==l')=decide (l=l'):=by by_cases h:l=l'<;>simp[h]
 simp only[zeV,this]
@[go_sem] theorem zyV:za1 [] [] []=some (true,True):=rfl
@[go_sem] theorem zxp {v:Und}{vs:List Und}{y:FD}:za1 (v::vs) (x::xs) (y::ys)=@obK _ _ (zeV v x y) ⟨fun a=>@obK _ _ (za1 vs xs ys) ⟨fun b=>some (a.1&&b.1,a.2∧b.2)⟩⟩:=by
 simp only[za1];unfold obK ob;cases zeV v x y with
 |none=>rfl
 |some a=>simp only;cases za1 vs xs ys<;>rfl
@[go_sem] theorem zGf:zvJ .not (.fz (.b b))=some (.fz (.b (!b)),True):=rfl
@[go_sem] theorem zGe:zvJ .neg (.fz (.i kd n))=some (.fz (.i kd (-n)),inK kd (-n)):=rfl
@[go_sem] theorem zAC:zfp (.fz (.b true)) d e=some (d,True):=rfl
@[go_sem] theorem zAB:zfp (.fz (.b false)) d e=some (e,True):=rfl
@[go_sem] theorem zCF:zfp (.fz (.b b)) (.fz (.b true)) (.fz (.b c))=some (.fz (.b (b||c)),True):=by cases b<;>rfl
@[go_sem] theorem zCG:zfp (.fz (.b b)) (.fz (.b c)) (.fz (.b false))=some (.fz (.b (b&&c)),True):=by cases b<;>rfl
@[go_sem] theorem zF9:zc6 (.tup ds) i=@obK _ _ ds[i]? ⟨fun d=>some (d,True)⟩:=by simp only[zc6];unfold obK ob;cases ds[i]?<;>rfl
@[go_sem] theorem zAx:zmy (.rp xs)=some (.rp xs,True):=rfl
@[go_sem] theorem zyZ:zmy (.ptr id k)=some (.ptr id k,True):=rfl
@[go_sem] theorem zDV:zdi P t u (.fz (.i kd n))=@obK _ _ (zaq P t) ⟨fun _=>@obK _ _ (zaq P u) ⟨fun ti=>@obK _ _ ti.intK ⟨fun k=>some (.fz (.i k n),inK k n)⟩⟩⟩:=zto
@[go_sem] theorem zDU:zdi P t u (.full [.i .u8 n])=@obK _ _ (zaq P t) ⟨fun _=>@obK _ _ (zaq P u) ⟨fun ti=>@obK _ _ (zau P t) ⟨fun te=>@obK _ _ te.intK ⟨fun k=>if k= .u8 then(if ti.isStr then some (.fz (.s [UInt8.ofNat n.toNat]),True)else none)else none⟩⟩⟩⟩:=ztn
@[go_sem] theorem zDW:zdi P t u (.fz (.s l))=@obK _ _ (zaq P t) ⟨fun si=>@obK _ _ (zaq P u) ⟨fun ti=>if si.isStr&&ti.isStr then some (.fz (.s l),True)else none⟩⟩:=ztp
@[go_sem] theorem zuT {us:List Und}:TI.isStr ⟨k,n',ds,.bool,b,c,us⟩=false:=rfl
@[go_sem] theorem zsI {us:List Und}:TI.isSlice ⟨k,n',ds,.bool,b,c,us⟩=false:=rfl
@[go_sem] theorem ztD {us:List Und}:TI.isBool ⟨k,n',ds,.bool,b,c,us⟩=true:=rfl
@[go_sem] theorem zwb {us:List Und}:TI.isStr ⟨k,n',ds,.str,b,c,us⟩=true:=rfl
@[go_sem] theorem ztH {us:List Und}:TI.isSlice ⟨k,n',ds,.str,b,c,us⟩=false:=rfl
@[go_sem] theorem zuS {us:List Und}:TI.isBool ⟨k,n',ds,.str,b,c,us⟩=false:=rfl
@[go_sem] theorem zuU {us:List Und}:TI.isStr ⟨k,n',ds,.func,b,c,us⟩=false:=rfl
@[go_sem] theorem zsJ {us:List Und}:TI.isSlice ⟨k,n',ds,.func,b,c,us⟩=false:=rfl
@[go_sem] theorem ztE {us:List Und}:TI.isBool ⟨k,n',ds,.func,b,c,us⟩=false:=rfl
@[go_sem] theorem zwa {us:List Und}:TI.isStr ⟨k,n',ds,.ptr,b,c,us⟩=false:=rfl
@[go_sem] theorem ztG {us:List Und}:TI.isSlice ⟨k,n',ds,.ptr,b,c,us⟩=false:=rfl
@[go_sem] theorem zuR {us:List Und}:TI.isBool ⟨k,n',ds,.ptr,b,c,us⟩=false:=rfl
@[go_sem] theorem ztI {us:List Und}:TI.isStr ⟨k,n',ds,.other,b,c,us⟩=false:=rfl
@[go_sem] theorem zq7 {us:List Und}:TI.isSlice ⟨k,n',ds,.other,b,c,us⟩=false:=rfl
@[go_sem] theorem zsH {us:List Und}:TI.isBool ⟨k,n',ds,.other,b,c,us⟩=false:=rfl
@[go_sem] theorem ztJ {us:List Und}:TI.isStr ⟨k,n',ds,.slice t,b,c,us⟩=false:=rfl
@[go_sem] theorem zq8 {us:List Und}:TI.isSlice ⟨k,n',ds,.slice t,b,c,us⟩=true:=rfl
@[go_sem] theorem zv9 {us:List Und}:TI.isStr ⟨k,n',ds,.int kd,b,c,us⟩=false:=rfl
@[go_sem] theorem ztF {us:List Und}:TI.isSlice ⟨k,n',ds,.int kd,b,c,us⟩=false:=rfl
@[go_sem] theorem zsK {us:List Und}{fs:List (Nat×TypeId)}:TI.isStr ⟨k,n',ds,.struct fs,b,c,us⟩=false:=rfl
@[go_sem] theorem zpP {us:List Und}{fs:List (Nat×TypeId)}:TI.isSlice ⟨k,n',ds,.struct fs,b,c,us⟩=false:=rfl
@[go_sem] theorem zD9 {us:List Und}:TI.intK ⟨k,n',ds,.int kd,b,c,us⟩=some kd:=rfl
attribute [go_sem] zo2
@[go_sem] theorem zD6 {fs:List (Nat×TypeId)}{rest:List (Nat×D)}:zc7 P fs ds ((i,d)::rest)=@obK _ _ fs[i]? ⟨fun f=>@obK _ _ (zaq P f.2) ⟨fun fi=>@obK _ _ (zc7 P fs (zcT ds f.1 d.cs) rest) ⟨fun r=>some (r.1,(d.cs.length=fi.size∧f.1+fi.size≤ds.length)∧r.2)⟩⟩⟩:=zmx
@[go_sem] theorem zB3 {ps:List (Nat×D)}:zed P t ps=@obK _ _ (zaq P t) ⟨fun ti=>@obK _ _ (zgU ti.und) ⟨fun fs=>if fs.all (fun p=>(zaq P p.2).isSome)then(@obK _ _ (zc7 P fs ti.zero ps) ⟨fun r=>some (.agg r.1,r.2)⟩)else none⟩⟩:=zoY
@[go_sem] theorem zxE {fs:List (Nat×TypeId)}:zgU (.struct fs)=some fs:=rfl
@[go_sem] theorem zEt:zun n' d=(d.known&&d.cs.length==n'):=rfl
attribute [go_sem] List.flatMap_cons List.flatMap_nil
@[go_sem] theorem zxr:D.known (.fz x)=true:=rfl
@[go_sem] theorem zuV:D.known (.full xs)=true:=rfl
@[go_sem] theorem zyU:D.cs (.full xs)=[.full xs]:=rfl
@[go_sem] theorem zxt:D.known (.rp xs)=true:=rfl
@[go_sem] theorem zCf:D.cs (.rp xs)=[.rp xs]:=rfl
@[go_sem] theorem zwe:D.known (.ptr id k)=true:=rfl
@[go_sem] theorem zAf:D.cs (.ptr id k)=[.ptr id k]:=rfl
@[go_sem] theorem zwd:D.known (.arr id es s len)=true:=rfl
@[go_sem] theorem zAe:D.cs (.arr id es s len)=[.arr id es s len]:=rfl
@[go_sem] theorem zxs:D.known (.ow id es xs)=true:=rfl
@[go_sem] theorem zCe:D.cs (.ow id es xs)=[.ow id es xs]:=rfl
@[go_sem] theorem zAz:zcJ (.ow id es xs)=true:=rfl
@[go_sem] theorem zCR:zr5 (.ow id es xs)=some xs:=rfl
@[go_sem] theorem zxq:D.known (.fn f caps)=true:=rfl
@[go_sem] theorem zCc:D.cs (.fn f caps)=[.fn f caps]:=rfl
@[go_sem] theorem zwc:D.known (.agg ds)=true:=rfl
@[go_sem] theorem zwf:D.known (.tup ds)=true:=rfl
@[go_sem] theorem zAg:D.cs (.tup ds)=[.tup ds]:=rfl
@[go_sem] theorem zuW:D.known .junk=false:=rfl
@[go_sem] theorem zAd:D.cs (.agg ds)=ds:=rfl
@[go_sem] theorem zCd:D.cs (.fz x)=x.cells.map .fz:=rfl
@[go_sem] theorem zyR:FD.cells (.b b)=[.b b]:=rfl
@[go_sem] theorem zxw:zcJ (.fz (.b b))=true:=rfl
@[go_sem] theorem zyS:FD.cells (.i kd n)=[.i kd n]:=rfl
@[go_sem] theorem zxx:zcJ (.fz (.i kd n))=true:=rfl
@[go_sem] theorem zyT:FD.cells (.s l)=[.s l]:=rfl
@[go_sem] theorem zxy:zcJ (.fz (.s l))=true:=rfl
@[go_sem] theorem zxo:FD.cells (.sl xs)=[.sl xs]:=rfl
@[go_sem] theorem zwg:zcJ (.fz (.sl xs))=true:=rfl
@[go_sem] theorem zv7:FD.cells (.agg xs)=xs:=rfl
@[go_sem] theorem zuX:zcJ (.fz (.agg xs))=false:=rfl
@[go_sem] theorem zuQ:FD.cells .nilf=[.nilf]:=rfl
@[go_sem] theorem zxz:zcJ (.fz .nilf)=true:=rfl
@[go_sem] theorem zxv:zcJ (.full xs)=true:=rfl
@[go_sem] theorem zAA:zcJ (.rp xs)=true:=rfl
@[go_sem] theorem zy1:zcJ (.ptr id k)=true:=rfl
@[go_sem] theorem zy0:zcJ (.arr id es s len)=true:=rfl
@[go_sem] theorem zAy:zcJ (.fn f caps)=true:=rfl
@[go_sem] theorem zAm:zlc (.full xs)=some xs:=rfl
@[go_sem] theorem zEo:zr5 (.fz (.sl xs))=some xs:=rfl
@[go_sem] theorem zCQ:zr5 (.full xs)=some xs:=rfl
@[go_sem] theorem zD4 {is:List Nat}:zb5 P t k is ds=@obK _ _ (zau P t) ⟨fun te=>@obK _ _ (D.toFDs ds) ⟨fun xs=>some (.full xs,is=List.range k∧zbi xs te.size∧k*te.size≤2^24∧k≤zaZ)⟩⟩:=by
 unfold zb5 obK ob
 cases zau P t with
 |none=>rfl
 |some te=>simp only;cases D.toFDs ds<;>rfl
@[go_sem] theorem zD3:zeE P t u d e=@obK _ _ (zau P t) ⟨fun te=>@obK _ _ (zaq P u) ⟨fun ui=>@obK _ _ (zlc d) ⟨fun xs=>@obK _ _ (zr5 e) ⟨fun ys=>if ui.isSlice then some (.fz (.sl (xs++ys)),zbi xs te.size∧zbi ys te.size∧fits (xs.length+ys.length) te.bytes)else none⟩⟩⟩⟩:=by
 unfold zeE obK ob
 cases zau P t with
 |none=>rfl
 |some te=>
  cases zaq P u with
  |none=>rfl
  |some ui=>cases zlc d with
   |none=>rfl
   |some xs=>cases zr5 e<;>rfl
end
theorem zaj {P:Program}{G:Nat→List FD}{T:Tbl}(hm:P.follows .mixedOrders=true)(hT:zan P G T){f:FuncId}{fn:Func}{c:Code}{args:List D}{H:zas}{n:Nat}{R:D→zas→Nat→Prop}(tag0:Nat)(am:Nat→Bool)(hcall:zam P f)(hf:P.funcs[f]?=some fn)(hb:fn.body=some c){N:Nat}(hN:fn.ntmps=N)(hl:args.length≤N)
  (hd:zbk am T c=true)(h:@XCK P G T N tag0 am c ⟨frL (zg8 0 args),H,n⟩ ⟨fun e st=>@zvi P fn e st ⟨R⟩⟩):zav P G f args H n R:=
 zvo hm hT tag0 am hcall hf hb hN hl hd h
def lst:List Nat→Nat→Bool
 |[],_=>false
 |a::l,t=>t==a||lst l t
attribute [go_sem] lst
def hpL:List (Id×Option O)→zas
 |[],_=>none
 |(i,o)::l,j=>if j=i then o else hpL l j
@[go_sem] theorem zAo {l:List (Id×Option O)}{i:Id}{o:Option O}:zaM (hpL l) i o=hpL ((i,o)::l):=by
 funext j;simp only[zaM,hpL]
@[go_sem] theorem zyW {l:List (Id×Option O)}{i j:Id}{o:Option O}:hpL ((i,o)::l) j=if j=i then o else hpL l j:=rfl
@[go_sem] theorem zAn {j:Id}:hpL [] j=none:=rfl
theorem zdo:H0=hpL []:=by funext j;rfl
def zpN (fr:Nat→D):List (Nat×D)→Prop
 |[]=>True
 |(k,d)::l=>fr k=d∧zpN fr l
def zfW (H:zas):List (Id×Option O)→Prop
 |[]=>True
 |(i,o)::l=>H i=o∧zfW H l
theorem zpN.get {fr:Nat→D}:∀{l:List (Nat×D)},zpN fr l→∀t,frL l t=fr t∨frL l t= .junk
 |[],_,_=> .inr rfl
 |(k,d)::l,h,t=>by
  simp only[frL]
  split
  ·rename_i e;subst e;exact .inl h.1.symm
  ·exact zpN.get h.2 t
theorem zfW.get {H:zas}:∀{l:List (Id×Option O)},zfW H l→∀id o,hpL l id=some o→H id=some o
 |[],_,_,_,h=>by cases h
 |(i,o')::l,h,id,o,e=>by
  simp only[hpL]at e
  split at e
  ·rename_i e';subst e';rw[h.1];exact e
  ·exact zfW.get h.2 id o e
theorem zah {G:Nat→List FD}{N:Nat}{st:St}{l:List (Nat×D)}{hl:List (Id×Option O)}{n:Nat}(hf:zpN st.fr l)(hh:zfW st.H hl)(hn:st.n≤n):zgh G N st ⟨frL l,hpL hl,n⟩:=by
 intro a w L F h
 have hu:∀id,Ub st.n id→Ub n id:=fun id hid=>Nat.lt_of_lt_of_le hid hn
 have e:Ext w L F (Ub st.n) w L F (Ub n):=⟨hu,fun _ _=>rfl,fun _ _ h=>h,fun _ _ _=>rfl,Nat.le_refl _,fun b cs T fr _ h=>⟨cs,T,fr,h,Nat.le_refl _⟩⟩
 refine⟨L,F,⟨⟨h.ok.fb,fun id o ho=>?_,fun id id' o o' h1 h2=>h.ok.inj id id' o o' (hh.get _ _ h1) (hh.get _ _ h2),h.ok.glob⟩,h.size,fun t=>?_,h.nd⟩,hu,fun _ _=>rfl,fun _ _ h=>h,Nat.le_refl _,fun _ _ _=>rfl,fun _ _ _ _=>rfl,
  fun b cs T fr _ h=>⟨cs,T,fr,h,Nat.le_refl _⟩,fun _ _ h=> .inl h,fun b k hb=> .inr ?_,rfl,rfl,rfl,Nat.le_refl _⟩
 ·obtain⟨h1,h2⟩:=h.ok.live id o (hh.get _ _ ho)
  exact⟨hu _ h1,h2.ext e h1 fun hv=>⟨rfl,(zaC h2 hv).1⟩⟩
 ·rcases hf.get t with h1|h1
  ·simp only;rw[h1];exact(h.fr t).ext e
  ·simp only;rw[h1];simp[zak]
 ·obtain⟨id,o,h1,h2,h3⟩:=hb
  exact⟨id,o,hh.get _ _ h1,h2,h3⟩
def lsw (ows own:List Nat)(t:Nat):Bool:=lst ows t||lst own t||lst (ows.map (2000000+·)) t
attribute [go_sem] lsw tok
class Ki (ι:Type) where
 st:ι→St
 mu:ι→Nat
def zln (G:Nat→List FD)(N:Nat){ι:Type}[I:Ki ι](i:ι)(e:Exit)(st:St)[q:Ke]:Prop:=zzo G N I.st I.mu i q.run e st
def zBb (G:Nat→List FD)(N:Nat){ι:Type}[I:Ki ι](i:ι)(st:St):Prop:=∃i',I.mu i'<I.mu i∧zgh G N st (I.st i')
section
variable {P:Program} {G:Nat→List FD} {T:Tbl} {N tag0:Nat} {am:Nat→Bool} {st:St} {ι:Type} {I:Ki ι} {i:ι} {q:Exit→St→Prop} {j:Nat}
@[go_sem] theorem zCC:@zln G N ι I i .normal st ⟨q⟩=@zBb G N ι I i st:=(rfl)
@[go_sem] theorem zCB:@zln G N ι I i (.exit j) st ⟨q⟩=q (.exit j) st:=(rfl)
@[go_sem] theorem zCD:@zln G N ι I i .ret st ⟨q⟩=q .ret st:=(rfl)
theorem zar (hm:P.follows .mixedOrders=true)(hT:zan P G T)(tag0:Nat)(am:Nat→Bool){c:Code}(I:Ki ι)(i:ι)(hd:zbk am T c=true)(h0:zgh G N st (I.st i))
  (round:∀i,@XCK P G T N tag0 am c (I.st i) ⟨fun e st=>@zln G N ι I i e st ⟨q⟩⟩):@WK P G N (.loop c) st ⟨q⟩:=
 zur I.st I.mu i h0 fun i=>zkl hm hT c _ _ hd (round i)
end
theorem zaD.i {P:Program}{G:Nat→List FD}{f:FuncId}{args:List D}{H:zas}{n:Nat}{R:D→zas→Nat→Prop}(h:zav P G f args H n R):@zaD P G f args H n ⟨R⟩:=h
theorem WK.i {P:Program}{G:Nat→List FD}{N:Nat}{c:Code}{st:St}{q:Exit→St→Prop}(h:W P G N c q st):@WK P G N c st ⟨q⟩:=h
attribute [irreducible] BiK obK zaH zgX zaB VvK XOK zja zio zg1 zg2 zou zfe zgc XCK zoI zu5 zfh zvi zaD WK zln
end Go.Abs
namespace Go.Abs
open Go
inductive FD.Wf:FD→Prop
 |b (x):Wf (.b x)
 |i (k n):k.min≤n→n≤k.max→Wf (.i k n)
 |s (x):x.length≤zaZ→Wf (.s x)
 |sl (xs):xs.length≤zaZ→(∀x∈xs,Wf x)→Wf (.sl xs)
 |agg (xs):(∀x∈xs,Wf x)→Wf (.agg xs)
 |nilf:Wf .nilf
theorem zbn.wf {w:World}{F:Nat→Nat→Prop}{v:Value}{x:FD}(h:zbn w F v x):x.Wf:=by
 induction h with
 |b x=>exact .b x
 |i k n h1 h2=>exact .i k n h1 h2
 |s x h=>
  refine .s _ ?_
  have hs:x.size=x.data.toList.length:=by rw[Array.length_toList];rfl
  rw[←hs];exact h
 |nilf=>exact .nilf
 |sl0 a cap=>exact .sl [] (by simp) (by simp)
 |sl b off cap es xs vs h1 h2 h3 h5 h6 h7 ih=>
  refine .sl xs h2 fun x hx=>?_
  obtain⟨i,hi,rfl⟩:=List.getElem_of_mem hx
  have hc:=h5 i hi
  have e:xs.getD i .nilf=xs[i]:=by simp[List.getD_eq_getElem?_getD,hi]
  rw[e]at hc
  have key:∀j,j<es→(xs[i].cells.getD j .nilf).Wf:=fun j hj=>by have:=ih i j hi hj;rwa [e]at this
  generalize xs[i]=y at*
  cases y with
  |agg ys=>
   refine .agg ys fun z hz=>?_
   obtain⟨j,hj,rfl⟩:=List.getElem_of_mem hz
   have:=key j (by rw[←hc];exact hj)
   simpa[FD.cells,List.getD_eq_getElem?_getD,hj]using this
  |_=>exact key 0 (by rw[←hc];simp[FD.cells])
 |agg vs xs h1 h2 ih=>
  refine .agg xs fun x hx=>?_
  obtain⟨i,hi,rfl⟩:=List.getElem_of_mem hx
  have:=ih i hi
  simpa[List.getD_eq_getElem?_getD,hi]using this
theorem zdP {P:Program}{G:Nat→List FD}{f:FuncId}{xs:List FD}{H:zas}{n:Nat}{Q:D→zas→Nat→Prop}(hc:zam P f)(h:(∀x∈xs,x.Wf)→zav P G f (xs.map .fz) H n Q):zav P G f (xs.map .fz) H n Q:=by
 refine⟨hc,fun w L F vs hok hvs=>(h ?_).2 w L F vs hok hvs⟩
 intro x hx
 obtain⟨i,hi,rfl⟩:=List.getElem_of_mem hx
 have:=((zap.iff _ _).1 hvs).2 i (by simpa using hi)
 rw[zb0 _ _ hi]at this
 simp only[zak]at this
 have e:xs.getD i .nilf=xs[i]:=by simp[List.getD_eq_getElem?_getD,hi]
 rw[e]at this
 exact this.wf
theorem zc1 {xs:List FD}(h:(FD.sl xs).Wf):xs.length≤zaZ:=by cases h;assumption
theorem zg0 {xs:List FD}(h:(FD.sl xs).Wf):∀x∈xs,x.Wf:=by cases h;assumption
theorem zbC {xs:List FD}(h:(FD.agg xs).Wf):∀x∈xs,x.Wf:=by cases h;assumption
theorem zDs {l:List UInt8}(h:(FD.s l).Wf):l.length≤zaZ:=by cases h;assumption
theorem zpl {n:Nat}:(0≤(n:Int))=True:=by simp
attribute [go_sem] zpl Int.toNat_natCast Int.ofNat_lt Int.ofNat_le Nat.zero_add Nat.add_zero Nat.mul_one Nat.one_mul Nat.zero_mul Nat.mul_zero Nat.zero_le Nat.le_refl List.length_map Int.natCast_inj
theorem zaa {α:Type}{f:α→FD}{l:List α}{i:Nat}(h:i<l.length):(l.map f).getD i .nilf=f l[i]:=by
 simp[List.getD_eq_getElem?_getD,h]
@[go_sem] theorem zFO:((0:Nat):Int)=0:=rfl
@[go_sem] theorem zFP {n:Nat}:((n+1:Nat):Int)=(n:Int)+1:=rfl
@[go_sem] theorem zBQ {n:Nat}:inK .i64 (n:Int)=(n≤9223372036854775807):=by
 simp only[inK,zmM,zmL,eq_iff_iff];omega
@[go_sem] theorem zz2 {n:Nat}:inK .i64 ((n:Int)+1)=(n+1≤9223372036854775807):=by
 simp only[inK,zmM,zmL,eq_iff_iff];omega
theorem zsQ {fr:Nat→D}:zpN fr []=True:=rfl
theorem zpW {fr:Nat→D}{k:Nat}{d:D}{l:List (Nat×D)}:zpN fr ((k,d)::l)=(fr k=d∧zpN fr l):=rfl
theorem zsR {H:zas}:zfW H []=True:=rfl
theorem zpX {H:zas}{i:Id}{o:Option O}{l:List (Id×Option O)}:zfW H ((i,o)::l)=(H i=o∧zfW H l):=rfl
attribute [go_sem] zsQ zpW zsR zpX D.fz.injEq FD.i.injEq FD.b.injEq FD.sl.injEq FD.s.injEq
end Go.Abs
namespace Go.Abs
open Go
structure Str where
 l:List UInt8
 deriving DecidableEq,Inhabited
@[go_sem] theorem zDh {a b:Str}:(a.l=b.l)=(a=b):=by
 cases a;cases b;simp
class Enc (α:Type) where
 enc:α→FD
 dec:FD→α
 dec_enc:∀a,dec (enc a)=a
def enc {α:Type}[Enc α](a:α):FD:=Enc.enc a
def dec {α:Type}[Enc α](x:FD):α:=Enc.dec x
@[go_sem] theorem dec_enc {α:Type}[Enc α](a:α):dec (enc a)=a:=Enc.dec_enc a
instance:Enc Bool:=⟨.b,fun| .b x=>x|_=>false,fun _=>rfl⟩
instance:Enc Int:=⟨.i .i64,fun| .i _ n=>n|_=>0,fun _=>rfl⟩
instance:Enc Str:=⟨fun s=> .s s.l,fun| .s l=>⟨l⟩|_=>⟨[]⟩,fun _=>rfl⟩
instance {α:Type}[Enc α]:Enc (List α):=⟨fun l=> .sl (l.map enc),fun| .sl xs=>xs.map dec|_=>[],fun a=>by
 simp only[List.map_map]
 rw[show(dec∘enc:α→α)=id from funext fun a=>dec_enc a]
 simp⟩
@[go_sem] theorem zzW {b:Bool}:enc b= .b b:=rfl
@[go_sem] theorem zBD {n:Int}:enc n= .i .i64 n:=rfl
@[go_sem] theorem zBE {s:Str}:enc s= .s s.l:=rfl
@[go_sem] theorem zzX {α:Type}[Enc α]{l:List α}:enc l= .sl (l.map enc):=rfl
@[go_sem] theorem zzT {b:Bool}:dec (.b b)=b:=rfl
@[go_sem] theorem zBA {n:Int}{k:IntKind}:dec (.i k n)=n:=rfl
@[go_sem] theorem zDA {α:Type}[Enc α]{l:List α}:dec (.sl (l.map enc))=l:=dec_enc l
@[go_sem] theorem zFT {l:List UInt8}:dec (α:=Str) (.s l)=⟨l⟩:=rfl
@[go_sem] theorem zw5 {α:Type}[Enc α]{xs ys:List FD}:dec (α:=List α) (.sl (xs++ys))=dec (.sl xs)++dec (.sl ys):=List.map_append
@[go_sem] theorem zvD {α:Type}[Enc α]{x:FD}{xs:List FD}:dec (α:=List α) (.sl (x::xs))=dec x::dec (.sl xs):=rfl
@[go_sem] theorem zw6 {α:Type}[Enc α]:dec (α:=List α) (.sl [])=[]:=rfl
def zev:Tbl:=fun _=>none
def Tbl.add (T:Tbl)(f:FuncId)(t:List FD→Option (D×Prop)):Tbl:=fun g=>if g=f then some t else T g
@[go_sem] theorem zBk {T:Tbl}{f g:FuncId}{t:List FD→Option (D×Prop)}:T.add f t g=if g=f then some t else T g:=rfl
@[go_sem] theorem zFN {g:FuncId}:zev g=none:=rfl
section
variable {P:Program} {G:Nat→List FD} {T:Tbl}
theorem zmg:zan P G zev:=fun _ _ _ _ _ h=>by cases h
theorem zcB {f:FuncId}{t:List FD→Option (D×Prop)}(hT:zan P G T)(h:∀xs r c,t xs=some (r,c)→c→zav P G f (xs.map .fz) H0 0 (fun d _ _=>D.val d=some r)):zan P G (T.add f t):=by
 intro g t' xs r c ht hx hc
 simp only[Tbl.add]at ht
 split at ht
 ·rename_i e;subst e;obtain rfl:=Option.some.inj ht;exact h _ _ _ hx hc
 ·exact hT _ _ _ _ _ ht hx hc
def sp1 {α ρ:Type}[Enc α][Enc ρ](f:α→ρ)(pre:α→Prop):List FD→Option (D×Prop)
 |[x]=>some (.fz (enc (f (dec x))),x=enc (dec (α:=α) x)∧pre (dec x))
 |_=>none
def sp2 {α β ρ:Type}[Enc α][Enc β][Enc ρ](f:α→β→ρ)(pre:α→β→Prop):List FD→Option (D×Prop)
 |[x,y]=>some (.fz (enc (f (dec x) (dec y))),x=enc (dec (α:=α) x)∧y=enc (dec (α:=β) y)∧pre (dec x) (dec y))
 |_=>none
def sp3 {α β γ ρ:Type}[Enc α][Enc β][Enc γ][Enc ρ](f:α→β→γ→ρ)(pre:α→β→γ→Prop):List FD→Option (D×Prop)
 |[x,y,z]=>some (.fz (enc (f (dec x) (dec y) (dec z))),x=enc (dec (α:=α) x)∧y=enc (dec (α:=β) y)∧z=enc (dec (α:=γ) z)∧pre (dec x) (dec y) (dec z))
 |_=>none
@[go_sem] theorem zCU {α ρ:Type}[Enc α][Enc ρ]{f:α→ρ}{pre:α→Prop}{x:FD}:sp1 f pre [x]=some (.fz (enc (f (dec x))),x=enc (dec (α:=α) x)∧pre (dec x)):=rfl
@[go_sem] theorem zwh {α β ρ:Type}[Enc α][Enc β][Enc ρ]{f:α→β→ρ}{pre:α→β→Prop}{x y:FD}:sp2 f pre [x,y]=some (.fz (enc (f (dec x) (dec y))),x=enc (dec (α:=α) x)∧y=enc (dec (α:=β) y)∧pre (dec x) (dec y)):=rfl
@[go_sem] theorem zGi {α β γ ρ:Type}[Enc α][Enc β][Enc γ][Enc ρ]{f:α→β→γ→ρ}{pre:α→β→γ→Prop}{x y z:FD}:sp3 f pre [x,y,z]=some (.fz (enc (f (dec x) (dec y) (dec z))),x=enc (dec (α:=α) x)∧y=enc (dec (α:=β) y)∧z=enc (dec (α:=γ) z)∧pre (dec x) (dec y) (dec z)):=rfl
theorem zbY {α ρ:Type}[Enc α][Enc ρ]{f:FuncId}{g:α→ρ}{pre:α→Prop}(hc:zam P f)(hT:zan P G T)
  (h:∀a,pre a→(enc a).Wf→zav P G f [.fz (enc a)] (hpL []) 0 (fun d _ _=>D.val d=some (.fz (enc (g a))))):zan P G (T.add f (sp1 g pre)):=by
 refine zcB hT fun xs r c hx hcc=>?_
 unfold sp1 at hx
 split at hx
 ·rename_i x
  simp only[Option.some.injEq,Prod.mk.injEq]at hx
  obtain⟨rfl,rfl⟩:=hx
  obtain⟨e,hp⟩:=hcc
  refine zdP hc fun hw=>?_
  rw[zdo]
  have:=h (dec x) hp (by rw[←e];exact hw x (by simp))
  rw[←e]at this
  exact this
 ·cases hx
theorem zbr {α β ρ:Type}[Enc α][Enc β][Enc ρ]{f:FuncId}{g:α→β→ρ}{pre:α→β→Prop}(hc:zam P f)(hT:zan P G T)
  (h:∀a b,pre a b→(enc a).Wf→(enc b).Wf→zav P G f [.fz (enc a),.fz (enc b)] (hpL []) 0 (fun d _ _=>D.val d=some (.fz (enc (g a b))))):zan P G (T.add f (sp2 g pre)):=by
 refine zcB hT fun xs r c hx hcc=>?_
 unfold sp2 at hx
 split at hx
 ·rename_i x y
  simp only[Option.some.injEq,Prod.mk.injEq]at hx
  obtain⟨rfl,rfl⟩:=hx
  obtain⟨e,e2,hp⟩:=hcc
  refine zdP hc fun hw=>?_
  rw[zdo]
  have:=h (dec x) (dec y) hp (by rw[←e];exact hw x (by simp)) (by rw[←e2];exact hw y (by simp))
  rw[←e,←e2]at this
  exact this
 ·cases hx
theorem zr8 {α β γ ρ:Type}[Enc α][Enc β][Enc γ][Enc ρ]{f:FuncId}{g:α→β→γ→ρ}{pre:α→β→γ→Prop}(hc:zam P f)(hT:zan P G T)
  (h:∀a b c,pre a b c→(enc a).Wf→(enc b).Wf→(enc c).Wf→zav P G f [.fz (enc a),.fz (enc b),.fz (enc c)] (hpL []) 0 (fun d _ _=>D.val d=some (.fz (enc (g a b c))))):zan P G (T.add f (sp3 g pre)):=by
 refine zcB hT fun xs r c hx hcc=>?_
 unfold sp3 at hx
 split at hx
 ·rename_i x y z
  simp only[Option.some.injEq,Prod.mk.injEq]at hx
  obtain⟨rfl,rfl⟩:=hx
  obtain⟨e,e2,e3,hp⟩:=hcc
  refine zdP hc fun hw=>?_
  rw[zdo]
  have:=h (dec x) (dec y) (dec z) hp (by rw[←e];exact hw x (by simp)) (by rw[←e2];exact hw y (by simp)) (by rw[←e3];exact hw z (by simp))
  rw[←e,←e2,←e3]at this
  exact this
 ·cases hx
@[go_sem] theorem zFH {x:FD}:D.val (.fz x)=some (.fz x):=rfl
@[go_sem] theorem zFI {id:Id}{es:Nat}{xs:List FD}:D.val (.ow id es xs)=some (.fz (.sl xs)):=rfl
@[go_sem] theorem zBa {xs:List FD}:D.val (.full xs)=some (.fz (.sl xs)):=rfl
@[go_sem] theorem zDo {ds:List D}:D.val (.tup ds)=(D.toFDs ds).map fun xs=> .tup (xs.map .fz):=rfl
end
end Go.Abs
namespace Go.Abs
open Go
def zpM (len:Nat)[k:Kn Bool]:Prop:=∀b,(b=true→len=0)→k.run b
theorem zpM.i {len:Nat}{k:Bool→Prop}(h:∀b,(b=true→len=0)→k b):@zpM len ⟨k⟩:=h
section
variable {P:Program} {N:Nat} {t:TypeId} {x:D} {st:St} {dst:Option Tmp} {k:St→Prop}
theorem zgi {op:BinOp}:@zja P N op t x st dst ⟨k⟩=zw0 P N op t x st dst k:=by unfold zja;rfl
@[go_sem] theorem zAv:@zja P N .eql t x st dst ⟨k⟩=@BiK _ (zau P t) ⟨fun _=>@BiK _ (zd4 x) ⟨fun len=>@zgX (zaS N dst) ⟨@zpM len ⟨fun b=>k (st.put dst (.fz (.b b)))⟩⟩⟩⟩:=by
 rw[zgi]
 unfold zw0 BiK Bi zgX Chk zpM
 cases zau P t with
 |none=>rfl
 |some te=>cases zd4 x<;>rfl
@[go_sem] theorem zAw:@zja P N .neq t x st dst ⟨k⟩=@BiK _ (zau P t) ⟨fun _=>@BiK _ (zd4 x) ⟨fun len=>@zgX (zaS N dst) ⟨@zpM len ⟨fun b=>k (st.put dst (.fz (.b (!b))))⟩⟩⟩⟩:=by
 rw[zgi]
 unfold zw0 BiK Bi zgX Chk zpM
 cases zau P t with
 |none=>rfl
 |some te=>
  cases zd4 x with
  |none=>rfl
  |some len=>
   simp only[eq_iff_iff,and_congr_right_iff]
   intro _
   exact⟨fun h b hb=>h (!b) (by simpa using hb),fun h b hb=>by have:=h (!b) (by simpa using hb);simpa using this⟩
@[go_sem] theorem zGo {xs:List FD}:zd4 (.fz (.sl xs))=some xs.length:=rfl
@[go_sem] theorem zC4 {xs:List FD}:zd4 (.full xs)=some xs.length:=rfl
@[go_sem] theorem zGn {id:Id}{es:Nat}{xs:List FD}:zd4 (.ow id es xs)=some xs.length:=rfl
@[go_sem] theorem zEH {id:Id}{es s len:Nat}:zd4 (.arr id es s len)=some len:=rfl
end
attribute [irreducible] zpM
theorem zfw {α:Type}{f:α→FD}{k:Nat}(h:∀a,(f a).cells.length=k)(l:List α):zbi (l.map f) k:=by
 intro x hx
 obtain⟨a,_,rfl⟩:=List.mem_map.1 hx
 exact h a
@[go_sem] theorem zzm {l:List Str}:zbi (l.map enc) 1=True:=eq_true (zfw (f:=enc) (k:=1) (fun _=>rfl) l)
@[go_sem] theorem zxN {α:Type}[Enc α]{l:List (List α)}:zbi (l.map enc) 1=True:=eq_true (zfw (f:=enc) (k:=1) (fun _=>rfl) l)
@[go_sem] theorem zzj {l:List Int}:zbi (l.map enc) 1=True:=eq_true (zfw (f:=enc) (k:=1) (fun _=>rfl) l)
@[go_sem] theorem zxJ {l:List Bool}:zbi (l.map enc) 1=True:=eq_true (zfw (f:=enc) (k:=1) (fun _=>rfl) l)
@[go_sem] theorem zAU {k:Nat}:zbi [] k=True:=by simp[zbi]
@[go_sem] theorem zzi {x:FD}{xs:List FD}{k:Nat}:zbi (x::xs) k=(x.cells.length=k∧zbi xs k):=by simp[zbi]
@[go_sem] theorem zAT {xs ys:List FD}{k:Nat}:zbi (xs++ys) k=(zbi xs k∧zbi ys k):=by
 simp only[zbi,List.mem_append,eq_iff_iff]
 exact⟨fun h=>⟨fun x hx=>h x (.inl hx),fun x hx=>h x (.inr hx)⟩,fun h x hx=>hx.elim (h.1 x) (h.2 x)⟩
theorem zqV {n b:Nat}(h:n≤4294967296)(hb:b≤64):fits n b:=by
 have h1:n≤zaZ:=Nat.le_trans h (by unfold zaZ;decide)
 refine⟨h1,Nat.le_trans (Nat.mul_le_mul_left _ hb) ?_⟩
 omega
theorem ze5 (k:Nat):∀(ds cells:List D) (j:Nat),(ds.zipIdx j).foldl (fun cs p=>cs.set (k+p.2) p.1) cells=(ds.zipIdx 0).foldl (fun cs p=>cs.set (k+j+p.2) p.1) cells
 |[],_,_=>rfl
 |d::ds,cells,j=>by
  simp only[List.zipIdx_cons,List.foldl_cons,Nat.add_zero,Nat.zero_add]
  rw[ze5 k ds _ (j+1),show(fun(cs:List D) (p:D×Nat)=>cs.set (k+j+p.2) p.1)=fun cs p=>cs.set ((k+j)+p.2) p.1 from rfl,ze5 (k+j) ds _ 1]
  rfl
@[go_sem] theorem zga {cells:List D}{k:Nat}{d:D}{ds:List D}:zcT cells k (d::ds)=zcT (cells.set k d) (k+1) ds:=by
 unfold zcT
 simp only[List.zipIdx_cons,List.foldl_cons,Nat.add_zero,Nat.zero_add]
 rw[ze5 k ds _ 1]
@[go_sem] theorem zhU {cells:List D}{k:Nat}:zcT cells k []=cells:=rfl
attribute [go_sem] List.set_cons_zero List.set_cons_succ List.take_nil
@[go_sem] theorem zHn {xs:List FD}{i:Nat}:zbo xs 0 (i:Int)=xs.take i:=by simp[zbo]
@[go_sem] theorem zDz {xs:List FD}{i:Nat}:zbo xs (i:Int) (xs.length:Int)=xs.drop i:=by simp[zbo]
@[go_sem] theorem zu0 {α:Type}[Enc α]{l:List α}{i:Nat}:(l.map enc).take i=(l.take i).map enc:=List.map_take.symm
@[go_sem] theorem zuZ {α:Type}[Enc α]{l:List α}{i:Nat}:(l.map enc).drop i=(l.drop i).map enc:=List.map_drop.symm
attribute [go_sem] false_implies true_implies imp_self
@[go_sem] theorem zHQ:List.range 0=[]:=rfl
@[go_sem] theorem zHR:List.range 1=[0]:=rfl
@[go_sem] theorem zHS:List.range 2=[0,1]:=rfl
@[go_sem] theorem zHT:List.range 3=[0,1,2]:=rfl
@[go_sem] theorem zHU:List.range 4=[0,1,2,3]:=rfl
@[go_sem] theorem zHV:List.range 5=[0,1,2,3,4]:=rfl
@[go_sem] theorem zHW:List.range 6=[0,1,2,3,4,5]:=rfl
@[go_sem] theorem zHX:List.range 7=[0,1,2,3,4,5,6]:=rfl
@[go_sem] theorem zHY:List.range 8=[0,1,2,3,4,5,6,7]:=rfl
@[go_sem] theorem zHZ:List.range 9=[0,1,2,3,4,5,6,7,8]:=rfl
@[go_sem] theorem zGP:List.range 10=[0,1,2,3,4,5,6,7,8,9]:=rfl
@[go_sem] theorem zGQ:List.range 11=[0,1,2,3,4,5,6,7,8,9,10]:=rfl
@[go_sem] theorem zGR:List.range 12=[0,1,2,3,4,5,6,7,8,9,10,11]:=rfl
@[go_sem] theorem zDn {ds:List D}:D.val (.agg ds)=(D.toFDs ds).map fun xs=> .fz (.agg xs):=by
 simp only[D.val,D.toFD,Option.map_map]
 rfl
@[go_sem] theorem zae {s:Str}:(⟨s.l⟩:Str)=s:=rfl
structure zh9 where
 code:Int
 index:Int
 deriving DecidableEq,Inhabited
instance:Enc zh9:=⟨fun f=> .agg [.i .i64 f.code,.i .i64 f.index],fun| .agg [.i _ a,.i _ b]=>⟨a,b⟩|_=>⟨0,0⟩,fun _=>rfl⟩
@[go_sem] theorem zyn {f:zh9}:enc f= .agg [.i .i64 f.code,.i .i64 f.index]:=rfl
end Go.Abs
namespace Go.Abs
open Go
def Ren (n n':Nat)(pre:Id→Id)(vn:Id→Bool)(id id':Id):Prop:=id'.2<n'∧(id'=id∨(n≤id'.2∧vn id'=false∧pre id'=id))
mutual
def Dr (n n':Nat)(pre:Id→Id)(vn:Id→Bool)(z:Id→Option (List FD))(H:zas)(d:D):D→Prop
 | .junk=>True
 | .ptr id' k=>∃id,d= .ptr id k∧Ren n n' pre vn id id'
 | .arr id' es s len=>(∃id,d= .arr id es s len∧Ren n n' pre vn id id')∨(d= .full []∧len=0∧id'.2<n')
 | .ow id' es xs=>(∃id,d= .ow id es xs∧Ren n n' pre vn id id')∨(d= .full xs∧id'.2<n')
 | .fz x=>d= .fz x∨d.toFD=some x∨∃id es xs,x= .sl xs∧d= .arr id es 0 xs.length∧z id=some xs∧zbi xs es
 | .fn f caps'=>∃caps,d= .fn f caps∧Drs n n' pre vn z H caps caps'
 | .agg ds'=>∃ds,d= .agg ds∧Drs n n' pre vn z H ds ds'
 | .tup ds'=>∃ds,d= .tup ds∧Drs n n' pre vn z H ds ds'
 | .full xs=>d= .full xs
 | .rp xs=>d= .rp xs
def Drs (n n':Nat)(pre:Id→Id)(vn:Id→Bool)(z:Id→Option (List FD))(H:zas)(ds:List D):List D→Prop
 |[]=>ds=[]
 |d'::ds'=>∃d ds0,ds=d::ds0∧Dr n n' pre vn z H d d'∧Drs n n' pre vn z H ds0 ds'
end
def Zok (H:zas)(z:Id→Option (List FD)):Prop:=∀id xs,z id=some xs→xs=[]∨∃o,H id=some o∧o.virt=false∧o.cells=zag xs
section
variable {G:Nat→List FD} {N:Nat} {w:World} {L:Loc} {F:Nat→Nat→Prop} {n n':Nat} {pre:Id→Id} {vn:Id→Bool} {z:Id→Option (List FD)} {H:zas}
def zpm (n:Nat)(pre:Id→Id)(vn:Id→Bool)(L:Loc):Loc:=fun id=>if n≤id.2 then(if vn id then⟨0,0,true⟩else L (pre id))else L id
def zzq (z:Id→Option (List FD))(H:zas)(L:Loc)(F:Nat→Nat→Prop):Nat→Nat→Prop:=fun b k=>F b k∨∃id xs o,z id=some xs∧xs≠[]∧H id=some o∧(L id).3=false∧b=(L id).1∧(L id).2≤k
theorem zrK {id id':Id}(hr:Ren n n' pre vn id id')(hu:Ub n id):zpm n pre vn L id'=L id:=by
 obtain⟨h1,rfl|⟨h2,h3,rfl⟩⟩:=hr
 ·unfold zpm;rw[if_neg (by unfold Ub at hu;omega)]
 ·unfold zpm;rw[if_pos h2,h3];rfl
theorem zju (hn:n≤n'):Ext w L F (Ub n) w (zpm n pre vn L) (zzq z H L F) (Ub n'):=
 ⟨fun _ h=>Nat.lt_of_lt_of_le h hn,fun id h=>by unfold zpm;rw[if_neg (by unfold Ub at h;omega)],fun _ _ h=> .inl h,fun _ _ _=>rfl,Nat.le_refl _,fun b cs T fr _ h=>⟨cs,T,fr,h,Nat.le_refl _⟩⟩
theorem zpb (hok:OkW G w L F (Ub n) H)(hz:Zok H z){id:Id}{es:Nat}{xs:List FD}{v:Value}(hv:zak w L F (Ub n) (.arr id es 0 xs.length) v)(hzi:z id=some xs)(hl:zbi xs es):
  zbn w (zzq z H L F) v (.sl xs):=by
 simp only[zak]at hv
 obtain⟨hu,a,cap,rfl,h1,h2,h3⟩:=hv
 rcases hz id xs hzi with rfl|⟨o,ho,hov,hoc⟩
 ·exact .sl0 a cap
 ·refine zbn.sl_mk h1 h2 fun hpos=>?_
  have hne:xs≠[]:=by rintro rfl;simp at hpos
  rcases h3 with h3|⟨rfl,hL3,hlt,_⟩
  ·omega
  ·obtain⟨hnF,cs,T,hcs,hsz,hcell⟩:=zaC (hok.live id o ho).2 hL3
   have hfl:(zag xs).length=xs.length*es:=zbN (za9 hl)
   refine⟨(L id).1,(L id).2+0,es,fun i j=>cs.getD ((L id).2+(i*es+j)) undef,rfl,fun k _=> .inr ⟨id,xs,o,hzi,hne,ho,hL3,rfl,by omega⟩,za9 hl,fun i j hi hj=>?_,fun i j hi hj=>?_⟩
   ·have hlt2:i*es+j<o.cells.length:=by
     rw[hoc,hfl];exact zpf hi hj
    obtain⟨u,hu1,_⟩:=hcell _ hlt2
    rw[zg9 hcs,show(L id).2+0+i*es+j=(L id).2+(i*es+j) by omega,hu1]
    simp[Array.getD_eq_getD_getElem?,hu1]
   ·have hlt2:i*es+j<o.cells.length:=by
     rw[hoc,hfl];exact zpf hi hj
    obtain⟨u,hu1,hu2⟩:=hcell _ hlt2
    rw[hoc,zeF (za9 hl) hi hj]at hu2
    simp only[Array.getD_eq_getD_getElem?,hu1,Option.getD_some]
    simp only[zak]at hu2
    exact hu2.mono (fun _ _ _=>rfl) fun _ _ h=> .inl h
mutual
theorem zqM (hok:OkW G w L F (Ub n) H)(hz:Zok H z)(hn:n≤n'):∀(d' d:D) (v:Value),Dr n n' pre vn z H d d'→zak w L F (Ub n) d v→zak w (zpm n pre vn L) (zzq z H L F) (Ub n') d' v
 | .junk,_,_,_,_=>by simp[zak]
 | .ptr id' k,d,v,h,hv=>by
  simp only[Dr]at h
  obtain⟨id,rfl,hr⟩:=h
  simp only[zak]at hv ⊢
  rw[zrK hr hv.1]
  exact⟨hr.1,hv.2⟩
 | .arr id' es s len,d,v,h,hv=>by
  simp only[Dr]at h
  rcases h with⟨id,rfl,hr⟩|⟨rfl,rfl,hu⟩
  ·simp only[zak]at hv ⊢
   rw[zrK hr hv.1]
   exact⟨hr.1,hv.2⟩
  ·simp only[zak]at hv ⊢
   obtain⟨a,rfl,_⟩:=hv
   exact⟨hu,a,0,rfl,Nat.le_refl _,Nat.zero_le _,.inl rfl⟩
 | .fz x,d,v,h,hv=>by
  simp only[Dr]at h
  rcases h with rfl|h|⟨id,es,xs,rfl,rfl,hzi,hl⟩
  ·exact hv.ext (zju hn)
  ·have:=zak.toFD _ _ _ hv h
   simp only[zak]
   exact this.mono (fun _ _ _=>rfl) fun _ _ h=> .inl h
  ·simp only[zak]
   exact zpb hok hz hv hzi hl
 | .ow id' es xs,d,v,h,hv=>by
  simp only[Dr]at h
  rcases h with⟨id,rfl,hr⟩|⟨rfl,hu⟩
  ·simp only[zak]at hv ⊢
   obtain⟨h1,h2,a,cap,h3,h4⟩:=hv
   rw[zrK hr h1]
   exact⟨hr.1,h2.mono (fun _ _ _=>rfl) fun _ _ h=> .inl h,a,cap,h3,h4⟩
  ·simp only[zak]at hv ⊢
   obtain⟨a,rfl,h2⟩:=hv
   exact⟨hu,h2.mono (fun _ _ _=>rfl) fun _ _ h=> .inl h,a,_,rfl,.inl rfl⟩
 | .fn f caps',d,v,h,hv=>by
  simp only[Dr]at h
  obtain⟨caps,rfl,h⟩:=h
  simp only[zak]at hv ⊢
  obtain⟨vs,rfl,hv⟩:=hv
  exact⟨vs,rfl,zjm hok hz hn caps' caps vs h hv⟩
 | .agg ds',d,v,h,hv=>by
  simp only[Dr]at h
  obtain⟨ds,rfl,h⟩:=h
  simp only[zak]at hv ⊢
  obtain⟨vs,rfl,hv⟩:=hv
  exact⟨vs,rfl,zjm hok hz hn ds' ds vs h hv⟩
 | .tup ds',d,v,h,hv=>by
  simp only[Dr]at h
  obtain⟨ds,rfl,h⟩:=h
  simp only[zak]at hv ⊢
  obtain⟨vs,rfl,hv⟩:=hv
  exact⟨vs,rfl,zjm hok hz hn ds' ds vs h hv⟩
 | .full xs,d,v,h,hv=>by
  simp only[Dr]at h
  subst h
  exact hv.ext (zju hn)
 | .rp xs,d,v,h,hv=>by
  simp only[Dr]at h
  subst h
  exact hv.ext (zju hn)
theorem zjm (hok:OkW G w L F (Ub n) H)(hz:Zok H z)(hn:n≤n'):∀(ds' ds:List D) (vs:List Value),Drs n n' pre vn z H ds ds'→zap w L F (Ub n) ds vs→zap w (zpm n pre vn L) (zzq z H L F) (Ub n') ds' vs
 |[],ds,vs,h,hv=>by
  simp only[Drs]at h
  subst h
  cases vs with
  |nil=>trivial
  |cons=>exact hv.elim
 |d'::ds',ds,vs,h,hv=>by
  simp only[Drs]at h
  obtain⟨d,ds0,rfl,h1,h2⟩:=h
  cases vs with
  |nil=>exact hv.elim
  |cons v vs=>
   simp only[zap]at hv ⊢
   exact⟨zqM hok hz hn d' d v h1 hv.1,zjm hok hz hn ds' ds0 vs h2 hv.2⟩
end
def Hr (n n':Nat)(pre:Id→Id)(vn:Id→Bool)(z:Id→Option (List FD))(H H':zas):Prop:=
 ∀id' o',H' id'=some o'→(vn id'=true∧n≤id'.2∧id'.2<n'∧o'.virt=true∧o'.cells=[])∨z (pre id')=none∧Ren n n' pre vn (pre id') id'∧∃o,H (pre id')=some o∧o'.virt=o.virt∧o'.cells.length=o.cells.length∧
  ∀j,j<o'.cells.length→Dr n n' pre vn z H (o.cells.getD j .junk) (o'.cells.getD j .junk)
theorem znf {st st':St}(pre:Id→Id)(vn:Id→Bool)(z:Id→Option (List FD))(hn:st.n≤st'.n)(hz:Zok st.H z)(hH:Hr st.n st'.n pre vn z st.H st'.H)
  (hinj:∀id1 id2 o1 o2,st'.H id1=some o1→st'.H id2=some o2→pre id1=pre id2→id1=id2)
  (hfr:∀t,Dr st.n st'.n pre vn z st.H (st.fr t) (st'.fr t)):zgh G N st st':=by
 intro a w L F h
 have hok:=h.ok
 have live:∀id' o',st'.H id'=some o'→(zpm st.n pre vn L id').3=false→∃o,st.H (pre id')=some o∧zpm st.n pre vn L id'=L (pre id'):=fun id' o' ho hv=>by
  rcases hH id' o' ho with⟨q1,q2,_,_,_⟩|⟨_,hr,o,h1,h2,_⟩
  ·unfold zpm at hv;rw[if_pos q2,if_pos q1]at hv;cases hv
  exact⟨o,h1,zrK hr (hok.live _ _ h1).1⟩
 have own:∀b k,Own st'.H (zpm st.n pre vn L) b k→Own st.H L b k:=by
  rintro b k ⟨id',o',h1,h2,h3,h4⟩
  obtain⟨o,g1,g3⟩:=live id' o' h1 h2
  rw[g3]at h2 h3 h4
  exact⟨pre id',o,g1,h2,h3,h4⟩
 refine⟨zpm st.n pre vn L,zzq z st.H L F,⟨⟨fun b k hb=>?_,fun id' o' ho=>?_,fun id1 id2 o1 o2 h1 h2 v1 v2 e=>?_,zdT (fun _ _ h=> .inl h) (fun _ _ _=>rfl) hok.glob⟩,h.size,fun t=>zqM hok hz hn _ _ _ (hfr t) (h.fr t),h.nd⟩,
  ⟨fun id hid=>Nat.lt_of_lt_of_le hid hn,(zju (w:=w) (F:=F) (z:=z) (H:=st.H) hn).l,fun _ _ h=> .inl h,Nat.le_refl _,fun _ _ _=>rfl,fun _ _ _ _=>rfl,fun b cs T fr _ h=>⟨cs,T,fr,h,Nat.le_refl _⟩,fun b k hb=>?_,fun b k hb=> .inr (own b k hb),rfl,rfl,rfl,Nat.le_refl _⟩⟩
 ·rcases hb with hb|⟨id,xs,o,h1,h2,h3,h4,rfl,_⟩
  ·exact hok.fb b k hb
  ·exact hok.blk_lt h3 h4
 ·rcases hH id' o' ho with⟨q1,q2,q3,q4,q5⟩|⟨hzn,hr,o,h1,h2,h3,h4⟩
  ·refine⟨q3,?_⟩
   unfold zb2 zpm
   rw[if_pos q2,if_pos q1]
   simp only[if_true]
   exact⟨q5,q4⟩
  obtain⟨hu,hob⟩:=hok.live _ _ h1
  have eL:=zrK (L:=L) hr hu
  refine⟨hr.1,?_⟩
  unfold zb2 at hob ⊢
  rw[eL]
  cases hv:(L (pre id')).3
  ·simp only[hv,Bool.false_eq_true,if_false]at hob ⊢
   obtain⟨g1,cs,T,g2,g3,g4⟩:=hob
   refine⟨?_,cs,T,g2,by rw[h3];exact g3,fun j hj=>?_⟩
   ·rintro k hk (hF|⟨id,xs,oz,z1,z2,z3,z4,e,_⟩)
    ·exact g1 k hk hF
    ·have:=hok.inj (pre id') id o oz h1 z3 hv z4 e
     rw[←this,hzn]at z1
     cases z1
   ·obtain⟨u,e1,e2⟩:=g4 j (by rw[←h3];exact hj)
    exact⟨u,e1,zqM hok hz hn _ _ _ (h4 j hj) e2⟩
  ·simp only[hv,if_true]at hob ⊢
   exact⟨List.eq_nil_of_length_eq_zero (by rw[h3,hob.1];rfl),by rw[h2];exact hob.2⟩
 ·obtain⟨p1,g1,g3⟩:=live id1 o1 h1 v1
  obtain⟨p2,g4,g6⟩:=live id2 o2 h2 v2
  rw[g3]at v1
  rw[g6]at v2
  rw[g3,g6]at e
  exact hinj id1 id2 o1 o2 h1 h2 (hok.inj _ _ _ _ g1 g4 v1 v2 e)
 ·rcases hb with hb|⟨id,xs,o,h1,h2,h3,h4,rfl,h6⟩
  ·exact .inl hb
  ·exact .inr (.inr ⟨id,o,h3,h4,rfl,h6⟩)
end
end Go.Abs
namespace Go.Abs
open Go
def zmd:List (Id×Id)→Id→Id
 |[],i=>i
 |(a,b)::l,i=>if i=a then b else zmd l i
def zL:List (Id×List FD)→Id→Option (List FD)
 |[],_=>none
 |(a,xs)::l,i=>if i=a then some xs else zL l i
def vL:List Id→Id→Bool
 |[],_=>false
 |a::l,i=>decide (i=a)||vL l i
def ZE (xs:List FD):Option O→Prop
 |none=>False
 |some o=>o.cells=zag xs∧(o.virt=true→xs=[])
def zsX (H:zas):List (Id×List FD)→Prop
 |[]=>True
 |(i,xs)::l=>ZE xs (H i)∧zsX H l
theorem zsX.ok {H:zas}:∀{l:List (Id×List FD)},zsX H l→Zok H (zL l)
 |[],_,_,_,h=>by cases h
 |(i,ys)::l,h,id,xs,e=>by
  simp only[zL]at e
  split at e
  ·rename_i e'
   subst e'
   obtain rfl:=Option.some.inj e
   have h1:=h.1
   cases ho:H id with
   |none=>rw[ho]at h1;exact h1.elim
   |some o=>
    rw[ho]at h1
    cases hv:o.virt with
    |true=>exact .inl (h1.2 hv)
    |false=>exact .inr ⟨o,rfl,hv,h1.1⟩
  ·exact zsX.ok h.2 id xs e
def HO (n n':Nat)(pre:Id→Id)(vn:Id→Bool)(z:Id→Option (List FD))(H:zas)(o':O):Option O→Prop
 |none=>False
 |some o=>o'.virt=o.virt∧Drs n n' pre vn z H o.cells o'.cells
def HE (n n':Nat)(pre:Id→Id)(vn:Id→Bool)(z:Id→Option (List FD))(H:zas)(id':Id)(o':O):Prop:=
 if vn id'=true then n≤id'.2∧id'.2<n'∧o'.virt=true∧o'.cells=[]else z (pre id')=none∧Ren n n' pre vn (pre id') id'∧HO n n' pre vn z H o' (H (pre id'))
def HrL (n n':Nat)(pre:Id→Id)(vn:Id→Bool)(z:Id→Option (List FD))(H:zas):List (Id×Option O)→Prop
 |[]=>True
 |(i,some o)::l=>HE n n' pre vn z H i o∧HrL n n' pre vn z H l
 |(_,none)::l=>HrL n n' pre vn z H l
section
variable {n n':Nat} {pre:Id→Id} {vn:Id→Bool} {z:Id→Option (List FD)} {H:zas}
theorem zmf:∀{ds' ds:List D},Drs n n' pre vn z H ds ds'→ds'.length=ds.length∧∀j,j<ds'.length→Dr n n' pre vn z H (ds.getD j .junk) (ds'.getD j .junk)
 |[],ds,h=>by simp only[Drs]at h;subst h;simp
 |d'::ds',ds,h=>by
  simp only[Drs]at h
  obtain⟨d,ds0,rfl,h1,h2⟩:=h
  obtain⟨g1,g2⟩:=zmf h2
  refine⟨by simp[g1],fun j hj=>?_⟩
  cases j with
  |zero=>simpa using h1
  |succ j=>simpa using g2 j (by simpa using hj)
theorem zBd {id':Id}{o':O}(h:HE n n' pre vn z H id' o'):(vn id'=true∧n≤id'.2∧id'.2<n'∧o'.virt=true∧o'.cells=[])∨z (pre id')=none∧Ren n n' pre vn (pre id') id'∧∃o,H (pre id')=some o∧o'.virt=o.virt∧o'.cells.length=o.cells.length∧
  ∀j,j<o'.cells.length→Dr n n' pre vn z H (o.cells.getD j .junk) (o'.cells.getD j .junk):=by
 unfold HE at h
 split at h
 ·rename_i hv;exact .inl ⟨hv,h⟩
 ·obtain⟨h1,h2,h3⟩:=h
  refine .inr ⟨h1,h2,?_⟩
  cases ho:H (pre id')with
  |none=>rw[ho]at h3;exact h3.elim
  |some o=>
   rw[ho]at h3
   obtain⟨g1,g2⟩:=zmf h3.2
   exact⟨o,rfl,h3.1,g1,g2⟩
theorem HrL.ok:∀{l:List (Id×Option O)},HrL n n' pre vn z H l→Hr n n' pre vn z H (hpL l)
 |[],_,_,_,h=>by cases h
 |(i,some o)::l,h,id',o',e=>by
  simp only[hpL]at e
  split at e
  ·rename_i e'
   subst e'
   obtain rfl:=Option.some.inj e
   exact zBd h.1
  ·exact HrL.ok h.2 id' o' e
 |(i,none)::l,h,id',o',e=>by
  simp only[hpL]at e
  split at e
  ·cases e
  ·exact HrL.ok (l:=l) h id' o' e
def zi7 (pre:Id→Id):List (Id×Option O)→Prop
 |[]=>True
 |(i,_)::l=>(∀p∈l,pre p.1≠pre i)∧zi7 pre l
theorem zq2:∀{l:List (Id×Option O)} {id:Id} {o:O},hpL l id=some o→∃p∈l,p.1=id
 |[],_,_,h=>by cases h
 |(i,o')::l,id,o,h=>by
  simp only[hpL]at h
  split at h
  ·rename_i e;exact⟨_,List.mem_cons_self,e.symm⟩
  ·obtain⟨p,h1,h2⟩:=zq2 h;exact⟨p,List.mem_cons_of_mem _ h1,h2⟩
theorem zi7.inj:∀{l:List (Id×Option O)},zi7 pre l→∀id1 id2 o1 o2,hpL l id1=some o1→hpL l id2=some o2→pre id1=pre id2→id1=id2
 |[],_,_,_,_,_,h,_,_=>by cases h
 |(i,o)::l,h,id1,id2,o1,o2,h1,h2,e=>by
  simp only[hpL]at h1 h2
  by_cases e1:id1=i
  ·by_cases e2:id2=i
   ·rw[e1,e2]
   ·rw[if_neg e2]at h2
    obtain⟨p,hp,rfl⟩:=zq2 h2
    exact absurd (by rw[←e,e1]) (h.1 p hp)
  ·rw[if_neg e1]at h1
   by_cases e2:id2=i
   ·obtain⟨p,hp,rfl⟩:=zq2 h1
    exact absurd (by rw[e,e2]) (h.1 p hp)
   ·rw[if_neg e2]at h2
    exact zi7.inj h.2 id1 id2 o1 o2 h1 h2 e
def FrR (n n':Nat)(pre:Id→Id)(vn:Id→Bool)(z:Id→Option (List FD))(H:zas)(fr:Nat→D):List (Nat×D)→Prop
 |[]=>True
 |(k,d)::l=>Dr n n' pre vn z H (fr k) d∧FrR n n' pre vn z H fr l
theorem FrR.get {fr:Nat→D}:∀{l:List (Nat×D)},FrR n n' pre vn z H fr l→∀t,Dr n n' pre vn z H (fr t) (frL l t)
 |[],_,_=>by simp[frL,Dr]
 |(k,d)::l,h,t=>by
  simp only[frL]
  split
  ·rename_i e;subst e;exact h.1
  ·exact FrR.get h.2 t
theorem zaO {G:Nat→List FD}{N:Nat}{st:St}{l:List (Nat×D)}{hl:List (Id×Option O)}{m:Nat}(pr:List (Id×Id))(vs:List Id)(zs:List (Id×List FD))
  (hn:st.n≤m)(hz:zsX st.H zs)(hh:HrL st.n m (zmd pr) (vL vs) (zL zs) st.H hl)(ha:zi7 (zmd pr) hl)(hf:FrR st.n m (zmd pr) (vL vs) (zL zs) st.H st.fr l):
  zgh G N st ⟨frL l,hpL hl,m⟩:=
 znf (st':=⟨frL l,hpL hl,m⟩) (zmd pr) (vL vs) (zL zs) hn hz.ok hh.ok (fun id1 id2 o1 o2 h1 h2 e=>ha.inj id1 id2 o1 o2 h1 h2 e) fun t=>hf.get t
theorem zgY:∀(ds:List D),(∀d∈ds,∃x,d= .fz x)→Drs n n' pre vn z H ds ds
 |[],_=>by simp[Drs]
 |d::ds,h=>by
  obtain⟨x,rfl⟩:=h d (by simp)
  simp only[Drs]
  exact⟨.fz x,ds,rfl,by simp[Dr],zgY ds fun d hd=>h d (by simp[hd])⟩
@[go_sem] theorem zFv {xs:List FD}:Drs n n' pre vn z H (zag xs) (zag xs)=True:=by
 refine eq_true (zgY _ fun d hd=>?_)
 simp only[zag,List.mem_flatMap,List.mem_map]at hd
 obtain⟨_,_,x,_,rfl⟩:=hd
 exact⟨x,rfl⟩
@[go_sem] theorem zGI:Drs n n' pre vn z H [] []=True:=by simp[Drs]
@[go_sem] theorem zzC {d d':D}{ds ds':List D}:Drs n n' pre vn z H (d::ds) (d'::ds')=(Dr n n' pre vn z H d d'∧Drs n n' pre vn z H ds ds'):=by
 simp only[Drs,List.cons.injEq,eq_iff_iff]
 exact⟨fun⟨_,_,⟨rfl,rfl⟩,h1,h2⟩=>⟨h1,h2⟩,fun⟨h1,h2⟩=>⟨_,_,⟨rfl,rfl⟩,h1,h2⟩⟩
@[go_sem] theorem zGJ {id id':Id}{k k':Nat}:Dr n n' pre vn z H (.ptr id k) (.ptr id' k')=(k=k'∧Ren n n' pre vn id id'):=by
 simp only[Dr,D.ptr.injEq,eq_iff_iff]
 constructor
 ·rintro⟨_,⟨rfl,rfl⟩,h⟩;exact⟨rfl,h⟩
 ·rintro⟨rfl,h2⟩;exact⟨_,⟨rfl,rfl⟩,h2⟩
@[go_sem] theorem zGD {id id':Id}{es s len es' s' len':Nat}:Dr n n' pre vn z H (.arr id es s len) (.arr id' es' s' len')=(es=es'∧s=s'∧len=len'∧Ren n n' pre vn id id'):=by
 simp only[Dr,D.arr.injEq,reduceCtorEq,false_and,or_false,eq_iff_iff]
 constructor
 ·rintro⟨_,⟨rfl,rfl,rfl,rfl⟩,h⟩;exact⟨rfl,rfl,rfl,h⟩
 ·rintro⟨rfl,rfl,rfl,h4⟩;exact⟨_,⟨rfl,rfl,rfl,rfl⟩,h4⟩
@[go_sem] theorem zFA {id':Id}{es s len:Nat}:Dr n n' pre vn z H (.full []) (.arr id' es s len)=(len=0∧id'.2<n'):=by
 simp[Dr]
@[go_sem] theorem zGG {id:Id}{es s len:Nat}{xs:List FD}:Dr n n' pre vn z H (.arr id es s len) (.fz (.sl xs))=(s=0∧len=xs.length∧z id=some xs∧zbi xs es):=by
 simp only[Dr,reduceCtorEq,D.toFD,FD.sl.injEq,D.arr.injEq,false_or,eq_iff_iff]
 constructor
 ·rintro⟨_,_,_,rfl,⟨rfl,rfl,rfl,rfl⟩,h1,h2⟩;exact⟨rfl,rfl,h1,h2⟩
 ·rintro⟨rfl,rfl,h1,h2⟩;exact⟨_,_,_,rfl,⟨rfl,rfl,rfl,rfl⟩,h1,h2⟩
@[go_sem] theorem zHJ {id id':Id}{es es':Nat}{xs xs':List FD}:Dr n n' pre vn z H (.ow id es xs) (.ow id' es' xs')=(es=es'∧xs=xs'∧Ren n n' pre vn id id'):=by
 simp only[Dr,D.ow.injEq,reduceCtorEq,false_and,or_false,eq_iff_iff]
 constructor
 ·rintro⟨_,⟨rfl,rfl,rfl⟩,h⟩;exact⟨rfl,rfl,h⟩
 ·rintro⟨rfl,rfl,h4⟩;exact⟨_,⟨rfl,rfl,rfl⟩,h4⟩
@[go_sem] theorem zA5 {id':Id}{es:Nat}{xs xs':List FD}:Dr n n' pre vn z H (.full xs) (.ow id' es xs')=(xs=xs'∧id'.2<n'):=by
 simp only[Dr,reduceCtorEq,false_and,exists_false,false_or,D.full.injEq]
@[go_sem] theorem zFy {id:Id}{es:Nat}{xs:List FD}{y:FD}:Dr n n' pre vn z H (.ow id es xs) (.fz y)=(FD.sl xs=y):=by
 simp only[Dr,reduceCtorEq,D.toFD,Option.some.injEq,false_and,and_false,exists_false,or_false,false_or]
@[go_sem] theorem zGH {x y:FD}:Dr n n' pre vn z H (.fz x) (.fz y)=(x=y):=by
 simp only[Dr,D.fz.injEq,D.toFD,Option.some.injEq,reduceCtorEq,false_and,and_false,exists_false,or_false,or_self]
@[go_sem] theorem zFw {xs:List FD}{y:FD}:Dr n n' pre vn z H (.full xs) (.fz y)=(FD.sl xs=y):=by
 simp only[Dr,reduceCtorEq,D.toFD,Option.some.injEq,false_and,and_false,exists_false,or_false,false_or]
@[go_sem] theorem zDc {xs ys:List FD}:Dr n n' pre vn z H (.full xs) (.full ys)=(xs=ys):=by
 simp only[Dr,D.full.injEq]
@[go_sem] theorem zFx {d:D}:Dr n n' pre vn z H d .junk=True:=by simp[Dr]
@[go_sem] theorem zHD {f g:FuncId}{c c':List D}:Dr n n' pre vn z H (.fn f c) (.fn g c')=(f=g∧Drs n n' pre vn z H c c'):=by
 simp only[Dr,D.fn.injEq,eq_iff_iff]
 constructor
 ·rintro⟨_,⟨rfl,rfl⟩,h⟩;exact⟨rfl,h⟩
 ·rintro⟨rfl,h2⟩;exact⟨_,⟨rfl,rfl⟩,h2⟩
@[go_sem] theorem zFz {id:Id}:Ren n n' pre vn id id=(id.2<n'):=by simp[Ren]
theorem zt3 {id id':Id}:Ren n n' pre vn id id'=(id'.2<n'∧(id'=id∨(n≤id'.2∧vn id'=false∧pre id'=id))):=rfl
@[go_sem] theorem zGE {fr:Nat→D}:FrR n n' pre vn z H fr []=True:=rfl
@[go_sem] theorem zGF {fr:Nat→D}{k:Nat}{d:D}{l:List (Nat×D)}:FrR n n' pre vn z H fr ((k,d)::l)=(Dr n n' pre vn z H (fr k) d∧FrR n n' pre vn z H fr l):=rfl
@[go_sem] theorem zHE:HrL n n' pre vn z H []=True:=rfl
@[go_sem] theorem zHF {i:Id}{o:O}{l:List (Id×Option O)}:HrL n n' pre vn z H ((i,some o)::l)=(HE n n' pre vn z H i o∧HrL n n' pre vn z H l):=rfl
@[go_sem] theorem zHG {i:Id}{o:O}:HE n n' pre vn z H i o=if vn i=true then n≤i.2∧i.2<n'∧o.virt=true∧o.cells=[]else z (pre i)=none∧Ren n n' pre vn (pre i) i∧HO n n' pre vn z H o (H (pre i)):=rfl
@[go_sem] theorem zHI {o o':O}:HO n n' pre vn z H o' (some o)=(o'.virt=o.virt∧Drs n n' pre vn z H o.cells o'.cells):=rfl
@[go_sem] theorem zHN:zsX H []=True:=rfl
@[go_sem] theorem zHO {i:Id}{xs:List FD}{l:List (Id×List FD)}:zsX H ((i,xs)::l)=(ZE xs (H i)∧zsX H l):=rfl
@[go_sem] theorem zHP {o:O}{xs:List FD}:ZE xs (some o)=(o.cells=zag xs∧(o.virt=true→xs=[])):=rfl
@[go_sem] theorem zHB:zi7 pre []=True:=rfl
@[go_sem] theorem zHC {i:Id}{o:Option O}{l:List (Id×Option O)}:zi7 pre ((i,o)::l)=((∀p∈l,pre p.1≠pre i)∧zi7 pre l):=rfl
@[go_sem] theorem zHK {i:Id}:zmd [] i=i:=rfl
@[go_sem] theorem zHL {a b i:Id}{l:List (Id×Id)}:zmd ((a,b)::l) i=if i=a then b else zmd l i:=rfl
@[go_sem] theorem zGN {i:Id}:zL [] i=none:=rfl
@[go_sem] theorem zGO {a i:Id}{xs:List FD}{l:List (Id×List FD)}:zL ((a,xs)::l) i=if i=a then some xs else zL l i:=rfl
@[go_sem] theorem zGL {i:Id}:vL [] i=false:=rfl
@[go_sem] theorem zGM {a i:Id}{l:List Id}:vL (a::l) i=(decide (i=a)||vL l i):=rfl
attribute [go_sem] List.forall_mem_cons List.not_mem_nil List.mem_cons forall_eq_or_imp forall_eq Option.some.injEq reduceCtorEq
@[go_sem] theorem zzZ:zag []=[]:=rfl
@[go_sem] theorem zzY {xs ys:List FD}:zag xs++zag ys=zag (xs++ys):=by simp[zag]
end
end Go.Abs
namespace Go.Abs
open Go
section
variable {P:Program} {G:Nat→List FD}
theorem zcV {f:FuncId}{args args':List D}{H H':zas}{n n':Nat}{R:D→zas→Nat→Prop}(hlen:args'.length=args.length)
  (hW:zgh G args.length ⟨frL (zg8 0 args),H,n⟩ ⟨frL (zg8 0 args'),H',n'⟩)(h:zav P G f args' H' n' R):zav P G f args H n R:=by
 refine⟨h.1,fun w L F vs hok hvs=>?_⟩
 have hvl:=(zap.iff _ _).1 hvs
 have hrel:Rel G args.length ⟨frL (zg8 0 args),H,n⟩ {tmps:=vs.toArray,defers:=[]} w L F:=by
  refine⟨hok,by simpa using hvl.1,fun t=>?_,rfl⟩
  simp only
  rw[←zez]
  simp only[zks]
  by_cases ht:t<args.length
  ·have:=hvl.2 t ht
   simpa[Array.getD_eq_getD_getElem?,List.getD_eq_getElem?_getD]using this
  ·have:args.getD t .junk= .junk:=by rw[List.getD_eq_getElem?_getD,List.getElem?_eq_none (by omega)];rfl
   rw[this];simp[zak]
 obtain⟨L1,F1,h1,h2⟩:=hW _ w L F hrel
 have hvs':zap w L1 F1 (Ub n') args' vs:=by
  rw[zap.iff]
  refine⟨by rw[hlen];exact hvl.1,fun j hj=>?_⟩
  have:=h1.fr j
  simp only at this
  rw[←zez]at this
  simp only[zks]at this
  simpa[Array.getD_eq_getD_getElem?,List.getD_eq_getElem?_getD]using this
 refine(h.2 w L1 F1 vs h1.ok hvs').mono fun e w' he=>?_
 obtain⟨v,d,H2,n2,L2,F2,e1,e2,e3,e4,e5⟩:=he
 exact⟨v,d,H2,n2,L2,F2,e1,e2,e3,e4,zbL.trans h2 e5⟩
theorem zp1 {f:FuncId}{args args':List D}{H:zas}{hl:List (Id×Option O)}{n n':Nat}{R:D→zas→Nat→Prop}(pr:List (Id×Id))(vs:List Id)(zs:List (Id×List FD))(hlen:args'.length=args.length)
  (hn:n≤n')(hz:zsX H zs)(hh:HrL n n' (zmd pr) (vL vs) (zL zs) H hl)(ha:zi7 (zmd pr) hl)(hf:Drs n n' (zmd pr) (vL vs) (zL zs) H args args')
  (h:zav P G f args' (hpL hl) n' R):zav P G f args H n R:=by
 refine zcV hlen ?_ h
 refine znf (st':=⟨frL (zg8 0 args'),hpL hl,n'⟩) (zmd pr) (vL vs) (zL zs) hn hz.ok hh.ok (fun id1 id2 o1 o2 h1 h2 e=>ha.inj id1 id2 o1 o2 h1 h2 e) fun t=>?_
 simp only
 rw[←zez,←zez]
 simp only[zks]
 obtain⟨g1,g2⟩:=zmf hf
 by_cases ht:t<args'.length
 ·exact g2 t ht
 ·have:args'.getD t .junk= .junk:=by rw[List.getD_eq_getElem?_getD,List.getElem?_eq_none (by omega)];rfl
  rw[this];simp[Dr]
end
end Go.Abs
namespace Go.Abs
open Go
class One (α:Type)[Enc α]:Prop where
 one:∀a:α,(enc a).cells=[enc a]
 ob:∀a:α,zcJ (.fz (enc a))=true
instance:One Str:=⟨fun _=>rfl,fun _=>rfl⟩
instance:One Int:=⟨fun _=>rfl,fun _=>rfl⟩
instance:One Bool:=⟨fun _=>rfl,fun _=>rfl⟩
instance {α:Type}[Enc α]:One (List α):=⟨fun _=>rfl,fun _=>rfl⟩
section
variable {α:Type} [Enc α] [One α]
theorem zcc:∀(l:List α),zag (l.map enc)=l.map fun a=> .fz (enc a)
 |[]=>rfl
 |a::l=>by
  have:=zcc l
  simp only[zag,List.map_cons,List.flatMap_cons]at this ⊢
  rw[this,One.one a]
  rfl
@[go_sem] theorem zuM {l:List α}:(zag (l.map enc)).length=l.length:=by rw[zcc];simp
@[go_sem] theorem zty {l:List α}{i:Nat}:(zag (l.map enc)).take i=zag ((l.take i).map enc):=by rw[zcc,zcc,List.map_take]
@[go_sem] theorem ztx {l:List α}{i:Nat}:(zag (l.map enc)).drop i=zag ((l.drop i).map enc):=by rw[zcc,zcc,List.map_drop]
@[go_sem] theorem zuJ {l:List α}:(zag (l.map enc)).all zcJ=true:=by
 rw[zcc,List.all_eq_true]
 intro d hd
 obtain⟨a,_,rfl⟩:=List.mem_map.1 hd
 exact One.ob a
@[go_sem] theorem zA9:∀{l:List α},zuj (zag (l.map enc))=some (l.map enc):=fun{l}=>by
 rw[zcc]
 induction l with
 |nil=>rfl
 |cons a l ih=>
  have h1:=One.ob a
  simp only[List.map_cons]
  generalize enc a=x at h1 ⊢
  cases x with
  |agg _=>simp[zcJ]at h1
  |_=>simp only[zuj,ih,Option.map_some]
theorem zdj {l:List α}{i:Nat}{a:α}:(zag (l.map enc)).set i (.fz (enc a))=zag ((l.set i a).map enc):=by
 rw[zcc,zcc,List.map_set]
@[go_sem] theorem zuL {l:List α}:(zag (l.map enc)).isEmpty=l.isEmpty:=by rw[zcc];cases l<;>rfl
end
@[go_sem] theorem zvN {xs:List FD}:(zag [.sl xs]).all zcJ=true:=rfl
@[go_sem] theorem zxc {l:List UInt8}:(zag [.s l]).all zcJ=true:=rfl
@[go_sem] theorem zxb {k:IntKind}{n:Int}:(zag [.i k n]).all zcJ=true:=rfl
@[go_sem] theorem zvO {xs:List FD}:zag [.sl xs]=[.fz (.sl xs)]:=rfl
@[go_sem] theorem zxe {l:List UInt8}:zag [.s l]=[.fz (.s l)]:=rfl
@[go_sem] theorem zxd {k:IntKind}{n:Int}:zag [.i k n]=[.fz (.i k n)]:=rfl
@[go_sem] theorem zuI {cs xs:List FD}:(zag (.agg cs::xs)).all zcJ=((cs.map D.fz).all zcJ&&(zag xs).all zcJ):=by
 simp only[zag,List.flatMap_cons,List.all_append];rfl
@[go_sem] theorem zuK:(zag []).all zcJ=true:=rfl
attribute [go_sem] List.take_length List.set_nil
@[go_sem] theorem zy4 {H:zas}{te:TI}{id:Id}{es s len:Nat}:zbm H te (.arr id es s len)=@obK _ _ (H id) ⟨fun o=>some (len,(o.cells.drop s).take (len*te.size),es=te.size∧s+len*te.size≤o.cells.length)⟩:=by
 have e:zbm H te (.arr id es s len)=match H id with
  |some o=>some (len,(o.cells.drop s).take (len*te.size),es=te.size∧s+len*te.size≤o.cells.length)
  |none=>none:=rfl
 rw[e]
 unfold obK ob
 cases H id<;>rfl
@[go_sem] theorem zym {α:Type}{xs ys:List α}:(xs++ys).isEmpty=(xs.isEmpty&&ys.isEmpty):=by cases xs<;>simp
attribute [go_sem] List.isEmpty_cons List.isEmpty_nil List.length_append List.map_append List.length_singleton
section
variable {n n':Nat} {pre:Id→Id} {vn:Id→Bool} {z:Id→Option (List FD)} {H:zas}
@[go_sem] theorem zHH {i:Id}{l:List (Id×Option O)}:HrL n n' pre vn z H ((i,none)::l)=HrL n n' pre vn z H l:=rfl
attribute [go_sem] Nat.not_lt_zero
end
end Go.Abs
