/- several texts of this proof in one; no conditions -/
import Derived.Test.YtmconmiemdinkaaGreatDoorY19
import Derived.Test.YtmconmiemdinkaaGreatDoorY15
set_option linter.unusedSimpArgs false
namespace Go.Abs
open Go
def okb (c:UInt8):Bool:=decide (okc c)
def nok (r:List UInt8):Prop:=∀c t,r=c::t→okb c=false
theorem zgv:∀{a b r s:List UInt8},(∀c∈a,okb c=true)→(∀c∈b,okb c=true)→nok r→nok s→a++r=b++s→a=b∧r=s
 |[],[],r,s,_,_,_,_,h=>⟨rfl,h⟩
 |[],y::b,r,s,_,hb,hr,_,h=>by
  have h1:=hr y (b++s) h
  rw[hb y (by simp)]at h1;cases h1
 |x::a,[],r,s,ha,_,_,hs,h=>by
  have h1:=hs x (a++r) h.symm
  rw[ha x (by simp)]at h1;cases h1
 |x::a,y::b,r,s,ha,hb,hr,hs,h=>by
  obtain⟨rfl,h2⟩:=List.cons.inj (show x::(a++r)=y::(b++s)from h)
  obtain⟨rfl,h3⟩:=zgv (fun c hc=>ha c (by simp[hc])) (fun c hc=>hb c (by simp[hc])) hr hs h2
  exact⟨rfl,h3⟩
theorem zqU:∀{a r:List UInt8},(∀c∈a,okb c=true)→nok r→(a++r).takeWhile okb=a∧(a++r).dropWhile okb=r
 |[],[],_,_=>⟨rfl,rfl⟩
 |[],y::r,_,hr=>by
  have:=hr y r rfl
  simp[this]
 |x::a,r,ha,hr=>by
  have h1:=ha x (by simp)
  obtain⟨h2,h3⟩:=zqU (a:=a) (fun c hc=>ha c (by simp[hc])) hr
  simp[h1,h2,h3]
theorem zbj {c:UInt8}{t:List UInt8}(h:okb c=false):nok (c::t):=fun d u e=>by
 obtain⟨rfl,rfl⟩:=List.cons.inj e;exact h
theorem zbW {w:Str}(h:zaq w=true):∀c∈w.l,okb c=true:=by
 unfold zaq at h
 intro c hc
 obtain⟨j,hj,rfl⟩:=List.getElem_of_mem hc
 have:=(of_decide_eq_true h).2.2.2 j hj
 rw[List.getD_eq_getElem?_getD,List.getElem?_eq_getElem hj]at this
 exact decide_eq_true this
theorem zhk {w:Str}(h:zaq w=true):∃c t,w.l=c::t∧zkj c:=by
 unfold zaq at h
 obtain⟨h1,_,h2,_⟩:=of_decide_eq_true h
 match hl:w.l,h1,h2 with
 |c::t,_,h2=>exact⟨c,t,rfl,h2⟩
theorem zl3 {c:UInt8}(h:zkj c):c≠40∧c≠45∧c≠41∧c≠61:=by
 refine⟨?_,?_,?_,?_⟩<;>(rintro rfl;revert h;decide)
inductive Vw:zab→Prop
 |t:Vw (.mk 1 ⟨[]⟩ [] [])
 |p (nm:Str) (ws:List Str):zaq nm=true→(∀w∈ws,zaq w=true)→Vw (.mk 2 nm ws [])
 |e (a b:Str):zaq a=true→zaq b=true→Vw (.mk 3 ⟨[]⟩ [a,b] [])
 |n (a:zab):Vw a→Vw (.mk 4 ⟨[]⟩ [] [a])
 |j (k:Int) (a b:zab):(k=5∨k=6∨k=7)→Vw a→Vw b→Vw (.mk k ⟨[]⟩ [] [a,b])
 |q (k:Int) (nm:Str) (a:zab):(k=8∨k=9)→zaq nm=true→Vw a→Vw (.mk k nm [] [a])
def stp (r:List UInt8):Prop:=r=[]∨∃c t,r=c::t∧(c=32∨c=41)
theorem stp.nok {r:List UInt8}(h:stp r):nok r:=by
 rcases h with rfl|⟨c,t,rfl,rfl|rfl⟩
 ·intro c t e;cases e
 ·exact zbj (by decide)
 ·exact zbj (by decide)
theorem zwJ {t:List UInt8}:stp (32::t):= .inr ⟨32,t,rfl,.inl rfl⟩
theorem zwI {t:List UInt8}:stp (41::t):= .inr ⟨41,t,rfl,.inr rfl⟩
def kap (L:List UInt8):Int:=
 match L with
 |[]=>0
 |c::t=>if c=45 then 4 else if c=40 then(if(t.dropWhile okb).take 2=[32,61]then 3 else 5)
  else if(L.dropWhile okb).head? =some 40 then 2 else if L.takeWhile okb=[116,114,117,101]then 1 else if L.takeWhile okb=[97,108,108]then 8 else 9
def kaf (k:Int):Int:=if k=5∨k=6∨k=7 then 5 else k
theorem zkf {a r:List UInt8}{c:UInt8}{t:List UInt8}(ha:∀c∈a,okb c=true)(hr:nok r)(hc:a=c::t)(h1:c≠45)(h2:c≠40):
  kap (a++r)=if r.head? =some 40 then 2 else if a=[116,114,117,101]then 1 else if a=[97,108,108]then 8 else 9:=by
 obtain⟨e1,e2⟩:=zqU ha hr
 subst hc
 rw[List.cons_append]at e1 e2 ⊢
 unfold kap
 simp only[if_neg h1,if_neg h2]
 rw[e1,e2]
theorem zwL:txt (.mk 1 ⟨[]⟩ [] [])=[116,114,117,101]:=zBK rfl
theorem zpd {nm ws s}:txt (.mk 2 nm ws s)=nm.l++40::(jn [44] ws++[41]):=by rw[zyt rfl,zbg,zbJ];simp
theorem zpe {a b:Str}{s}:txt (.mk 3 ⟨[]⟩ [a,b] s)=40::(a.l++(32::61::32::(b.l++[41]))):=by rw[zyu rfl,zbg,zbJ];simp[jn]
theorem zpf {nm ws a}:txt (.mk 4 nm ws [a])=45::txt a:=zvP rfl rfl
def sg2 (k:Int):UInt8:=if k=5 then 38 else if k=6 then 124 else 62
theorem zpg {k:Int}{nm ws a b}(h:k=5∨k=6∨k=7):txt (.mk k nm ws [a,b])=40::(txt a++(32::sg2 k::32::(txt b++[41]))):=by
 rw[zqW (f:= .mk k nm ws [a,b]) h rfl,zae]
 have:sgn k=[32,sg2 k,32]:=by unfold sgn sg2;split<;>(try split)<;>rfl
 rw[this];simp
def qs (k:Int):List UInt8:=if k=8 then[97,108,108]else[115,111,109,101]
theorem zph {k:Int}{nm ws a}(h:k=8∨k=9):txt (.mk k nm ws [a])=qs k++(32::(nm.l++(32::txt a))):=by
 rcases h with rfl|rfl
 ·rw[zvQ (f:= .mk 8 nm ws [a]) rfl rfl,zbg];simp[qs]
 ·rw[zvR (f:= .mk 9 nm ws [a]) rfl rfl,zbg];simp[qs]
theorem zx9 (k:Int):(∀c∈qs k,okb c=true)∧(∃c t,qs k=c::t∧c≠45∧c≠40):=by
 unfold qs
 split
 ·exact⟨by decide,97,[108,108],rfl,by decide,by decide⟩
 ·exact⟨by decide,115,[111,109,101],rfl,by decide,by decide⟩
theorem Vw.noeq {f:zab}(h:Vw f):∀(c:UInt8) (t:List UInt8),c≠61→((txt f++32::c::t).dropWhile okb).take 2≠[32,61]:=by
 have n40:okb 40=false:=by decide
 have o45:okb 45=true:=by decide
 induction h with
 |t=>
  intro c t hc
  rw[zwL,(zqU (by decide) (zbj (by decide))).2]
  simpa using hc
 |p nm ws h1 h2=>
  intro c t hc
  rw[zpd,List.append_assoc,List.cons_append,(zqU (zbW h1) (zbj n40)).2]
  simp
 |e a b h1 h2=>
  intro c t hc
  rw[zpe,List.cons_append,List.dropWhile_cons_of_neg (by simp[n40])]
  simp
 |n a _ ih=>
  intro c t hc
  rw[zpf,List.cons_append,List.dropWhile_cons_of_pos o45]
  exact ih c t hc
 |j k a b hk _ _ _ _=>
  intro c t hc
  rw[zpg hk,List.cons_append,List.dropWhile_cons_of_neg (by simp[n40])]
  simp
 |q k nm a hk h1 _ _=>
  intro c t hc
  obtain⟨d,u,hd,hl⟩:=zhk h1
  rw[zph hk,List.append_assoc,List.cons_append,(zqU (zx9 k).1 (zbj (by decide))).2,hd]
  have:=(zl3 hl).2.2.2
  simpa using this
theorem zBy (k:Int):sg2 k≠61:=by unfold sg2;split<;>(try split)<;>decide
theorem Vw.kap {f:zab}(h:Vw f){r:List UInt8}(hr:stp r):kap (txt f++r)=kaf f.kind:=by
 cases h with
 |t=>
  rw[zwL,zkf (by decide) hr.nok rfl (by decide) (by decide)]
  have:r.head? ≠some 40:=by
   rcases hr with rfl|⟨c,t,rfl,rfl|rfl⟩<;>simp
  rw[if_neg this];rfl
 |p nm ws h1 h2=>
  obtain⟨d,u,hd,hl⟩:=zhk h1
  rw[zpd,List.append_assoc,List.cons_append,zkf (zbW h1) (zbj (by decide)) hd (zl3 hl).2.1 (zl3 hl).1]
  simp[kaf,zae]
 |e a b h1 h2=>
  rw[zpe,List.cons_append]
  unfold Go.Abs.kap
  simp only[if_neg (show¬((40:UInt8)=45) by decide),if_true]
  rw[List.append_assoc,List.cons_append,List.cons_append,(zqU (zbW h1) (zbj (by decide))).2]
  simp[kaf,zae]
 |n a _=>
  rw[zpf,List.cons_append]
  unfold Go.Abs.kap
  simp[kaf,zae]
 |j k a b hk ha _=>
  rw[zpg hk,List.cons_append,List.append_assoc,List.cons_append,List.cons_append]
  unfold Go.Abs.kap
  simp only[if_neg (show¬((40:UInt8)=45) by decide),if_true]
  rw[if_neg (ha.noeq _ _ (zBy k))]
  unfold kaf;rw[zae,if_pos hk]
 |q k nm a hk h1 _=>
  obtain⟨c,t,hq,q1,q2⟩:=(zx9 k).2
  rw[zph hk,List.append_assoc,List.cons_append,zkf (zx9 k).1 (zbj (by decide)) hq q1 q2]
  rcases hk with rfl|rfl<;>simp[kaf,zae,qs]
theorem zoG:∀{ws vs:List Str} {r s:List UInt8},(∀w∈ws,zaq w=true)→(∀w∈vs,zaq w=true)→(ws.flatMap fun v=>[44]++v.l)++41::r=(vs.flatMap fun v=>[44]++v.l)++41::s→ws=vs∧r=s
 |[],[],r,s,_,_,h=>⟨rfl,(List.cons.inj h).2⟩
 |[],v::vs,r,s,_,_,h=>by simp at h
 |w::ws,[],r,s,_,_,h=>by simp at h
 |w::ws,v::vs,r,s,hw,hv,h=>by
  rw[List.flatMap_cons,List.flatMap_cons]at h
  simp only[List.cons_append,List.nil_append,List.append_assoc,List.cons.injEq,true_and]at h
  have nk:∀(l:List Str) (t:List UInt8),nok ((l.flatMap fun v=>44::v.l)++41::t):=fun l t=>by
   cases l with
   |nil=>exact zbj (by decide)
   |cons a l=>rw[List.flatMap_cons,List.cons_append,List.cons_append];exact zbj (by decide)
  obtain⟨h1,h2⟩:=zgv (zbW (hw w (by simp))) (zbW (hv v (by simp))) (nk _ _) (nk _ _) h
  obtain⟨h3,h4⟩:=zoG (ws:=ws) (vs:=vs) (r:=r) (s:=s) (fun x hx=>hw x (by simp[hx])) (fun x hx=>hv x (by simp[hx])) h2
  refine⟨?_,h4⟩
  rw[h3,show w=v from by cases w;cases v;exact congrArg Str.mk h1]
theorem zAx {ws vs:List Str}{r s:List UInt8}(hw:∀w∈ws,zaq w=true)(hv:∀w∈vs,zaq w=true)(h:jn [44] ws++41::r=jn [44] vs++41::s):ws=vs∧r=s:=by
 cases ws with
 |nil=>
  cases vs with
  |nil=>exact⟨rfl,(List.cons.inj h).2⟩
  |cons v vs=>
   obtain⟨d,u,hd,hl⟩:=zhk (hv v (by simp))
   rw[jn,jn,hd]at h
   have:=(List.cons.inj h).1
   exact absurd this.symm (zl3 hl).2.2.1
 |cons w ws=>
  cases vs with
  |nil=>
   obtain⟨d,u,hd,hl⟩:=zhk (hw w (by simp))
   rw[jn,jn,hd]at h
   have:=(List.cons.inj h).1
   exact absurd this (zl3 hl).2.2.1
  |cons v vs=>
   refine zoG hw hv ?_
   rw[List.flatMap_cons,List.flatMap_cons]
   rw[jn,jn]at h
   simpa using h
theorem zo9 {a b:Str}(h:a.l=b.l):a=b:=by cases a;cases b;exact congrArg Str.mk h
theorem Vw.inj {f:zab}(hf:Vw f):∀{g:zab},Vw g→∀{r s:List UInt8},stp r→stp s→txt f++r=txt g++s→f=g∧r=s:=by
 induction hf with
 |t=>
  intro g hg r s hr hs h
  have hk:=(Vw.t.kap hr).symm.trans ((congrArg Go.Abs.kap h).trans (hg.kap hs))
  cases hg with
  |t=>exact⟨rfl,List.append_cancel_left h⟩
  |p=>simp[kaf,zae]at hk
  |e=>simp[kaf,zae]at hk
  |n=>simp[kaf,zae]at hk
  |j k a b hk2=>exfalso;rw[zae,zae,show kaf k=5 by unfold kaf;rw[if_pos hk2]]at hk;revert hk;decide
  |q k nm a hk2=>exfalso;rcases hk2 with rfl|rfl<;>simp[kaf,zae]at hk
 |p nm ws h1 h2=>
  intro g hg r s hr hs h
  have hk:=((Vw.p nm ws h1 h2).kap hr).symm.trans ((congrArg Go.Abs.kap h).trans (hg.kap hs))
  cases hg with
  |t=>simp[kaf,zae]at hk
  |p nm' ws' h1' h2'=>
   rw[zpd,zpd]at h
   simp only[List.append_assoc,List.cons_append,List.nil_append]at h
   obtain⟨e1,e2⟩:=zgv (zbW h1) (zbW h1') (zbj (by decide)) (zbj (by decide)) h
   obtain⟨e3,e4⟩:=zAx h2 h2' (List.cons.inj e2).2
   exact⟨by rw[zo9 e1,e3],e4⟩
  |e=>simp[kaf,zae]at hk
  |n=>simp[kaf,zae]at hk
  |j k a b hk2=>exfalso;rw[zae,zae,show kaf k=5 by unfold kaf;rw[if_pos hk2]]at hk;revert hk;decide
  |q k nm a hk2=>exfalso;rcases hk2 with rfl|rfl<;>simp[kaf,zae]at hk
 |e a b h1 h2=>
  intro g hg r s hr hs h
  have hk:=((Vw.e a b h1 h2).kap hr).symm.trans ((congrArg Go.Abs.kap h).trans (hg.kap hs))
  cases hg with
  |t=>simp[kaf,zae]at hk
  |p=>simp[kaf,zae]at hk
  |e a' b' h1' h2'=>
   rw[zpe,zpe]at h
   simp only[List.append_assoc,List.cons_append,List.nil_append,List.cons.injEq,true_and]at h
   obtain⟨e1,e2⟩:=zgv (zbW h1) (zbW h1') (zbj (by decide)) (zbj (by decide)) h
   simp only[List.cons.injEq,true_and]at e2
   obtain⟨e3,e4⟩:=zgv (zbW h2) (zbW h2') (zbj (by decide)) (zbj (by decide)) e2
   exact⟨by rw[zo9 e1,zo9 e3],(List.cons.inj e4).2⟩
  |n=>simp[kaf,zae]at hk
  |j k a b hk2=>exfalso;rw[zae,zae,show kaf k=5 by unfold kaf;rw[if_pos hk2]]at hk;revert hk;decide
  |q k nm a hk2=>exfalso;rcases hk2 with rfl|rfl<;>simp[kaf,zae]at hk
 |n a ha ih=>
  intro g hg r s hr hs h
  have hk:=((Vw.n a ha).kap hr).symm.trans ((congrArg Go.Abs.kap h).trans (hg.kap hs))
  cases hg with
  |t=>simp[kaf,zae]at hk
  |p=>simp[kaf,zae]at hk
  |e=>simp[kaf,zae]at hk
  |n a' ha'=>
   rw[zpf,zpf]at h
   obtain⟨e1,e2⟩:=ih ha' hr hs (List.cons.inj h).2
   exact⟨by rw[e1],e2⟩
  |j k a b hk2=>exfalso;rw[zae,zae,show kaf k=5 by unfold kaf;rw[if_pos hk2]]at hk;revert hk;decide
  |q k nm a hk2=>exfalso;rcases hk2 with rfl|rfl<;>simp[kaf,zae]at hk
 |j k a b hk1 ha hb iha ihb=>
  intro g hg r s hr hs h
  have hk:=((Vw.j k a b hk1 ha hb).kap hr).symm.trans ((congrArg Go.Abs.kap h).trans (hg.kap hs))
  have h5:kaf k=5:=by unfold kaf;rw[if_pos hk1]
  rw[zae,h5]at hk
  cases hg with
  |t=>simp[kaf,zae]at hk
  |p=>simp[kaf,zae]at hk
  |e=>simp[kaf,zae]at hk
  |n=>simp[kaf,zae]at hk
  |j k' a' b' hk2 ha' hb'=>
   rw[zpg hk1,zpg hk2]at h
   simp only[List.append_assoc,List.cons_append,List.nil_append,List.cons.injEq,true_and]at h
   obtain⟨e1,e2⟩:=iha ha' zwJ zwJ h
   simp only[List.cons.injEq,true_and]at e2
   obtain⟨e3,e4⟩:=e2
   obtain⟨e5,e6⟩:=ihb hb' zwI zwI e4
   have ek:k=k':=by
    rcases hk1 with rfl|rfl|rfl<;>rcases hk2 with rfl|rfl|rfl<;>first|rfl|(exfalso;revert e3;decide)
   exact⟨by rw[ek,e1,e5],(List.cons.inj e6).2⟩
  |q k nm a hk2=>exfalso;rcases hk2 with rfl|rfl<;>simp[kaf,zae]at hk
 |q k nm a hk1 h1 ha ih=>
  intro g hg r s hr hs h
  have hk:=((Vw.q k nm a hk1 h1 ha).kap hr).symm.trans ((congrArg Go.Abs.kap h).trans (hg.kap hs))
  have h8:kaf k=k:=by unfold kaf;rw[if_neg (by omega)]
  rw[zae,h8]at hk
  cases hg with
  |t=>rcases hk1 with rfl|rfl<;>simp[kaf,zae]at hk
  |p=>rcases hk1 with rfl|rfl<;>simp[kaf,zae]at hk
  |e=>rcases hk1 with rfl|rfl<;>simp[kaf,zae]at hk
  |n=>rcases hk1 with rfl|rfl<;>simp[kaf,zae]at hk
  |j k' a b hk2=>exfalso;unfold kaf at hk;simp only[zae,if_pos hk2]at hk;omega
  |q k' nm' a' hk2 h1' ha'=>
   have h8':kaf k'=k':=by unfold kaf;rw[if_neg (by omega)]
   rw[zae,h8']at hk
   subst hk
   rw[zph hk1,zph hk1]at h
   simp only[List.append_assoc,List.cons_append,List.nil_append]at h
   have h:=List.append_cancel_left h
   simp only[List.cons.injEq,true_and]at h
   obtain⟨e1,e2⟩:=zgv (zbW h1) (zbW h1') (zbj (by decide)) (zbj (by decide)) h
   obtain⟨e3,e4⟩:=ih ha' hr hs (List.cons.inj e2).2
   exact⟨by rw[zo9 e1,e3],e4⟩
theorem Vw.txt_eq {f g:zab}(hf:Vw f)(hg:Vw g)(h:txt f=txt g):f=g:=(hf.inj hg (.inl rfl) (.inl rfl) (by rw[h])).1
end Go.Abs
namespace Go.Abs
open Go
theorem zvX {a b:List Str}(h:∀j,zeW j∈a↔zeW j∈b):vg a=vg b:=by
 funext k;unfold vg;rw[znO h k]
mutual
theorem zrS {used:List Str}:∀(f:zab) (env:List za8) (bd bd':List Str) (n:Nat),(∀w∈bd,lkp env w∈bd')→(∀w∈bd',w∉used)→(∀w∈cst f bd,lkp env w∈used)→
  cst (ren (vg used) f env n).1 bd'=(cst f bd).map (lkp env)
 | .mk k nm ws s,env,bd,bd',n,h1,h2,h3=>by
  rw[cst]at h3
  have hw:(ws.map (lkp env)).filter (fun w=>decide (w∉bd'))=(ws.filter fun w=>decide (w∉bd)).map (lkp env):=by
   have:∀l:List Str,(∀w∈l,w∈ws)→(l.map (lkp env)).filter (fun w=>decide (w∉bd'))=(l.filter fun w=>decide (w∉bd)).map (lkp env):=by
    intro l
    induction l with
    |nil=>intro _;rfl
    |cons w l ih=>
     intro hl
     have ih:=ih fun x hx=>hl x (by simp[hx])
     rw[List.map_cons]
     by_cases hb:w∈bd
     ·rw[List.filter_cons_of_neg (by simpa using h1 w hb),List.filter_cons_of_neg (by simpa using hb),ih]
     ·have hu:lkp env w∉bd':=fun hm=>h2 _ hm (h3 w (List.mem_append_left _ (List.mem_filter.2 ⟨hl w (by simp),by simpa using hb⟩)))
      rw[List.filter_cons_of_pos (by simpa using hu),List.filter_cons_of_pos (by simpa using hb),ih,List.map_cons]
   exact this ws fun _ h=>h
  rw[ren]
  by_cases hq:isQ k
  ·rw[if_pos hq]at h3
   rw[if_pos hq,cst,cst,if_pos hq,if_pos hq,List.map_append,hw]
   have hv:zeW (zb8 used n)∉used:=(zba used n).2.2.1
   have hc:∀w∈zbR s (bd++[nm]),lkp (env++[⟨nm,(vg used n).1⟩]) w=lkp env w:=fun w hw=>by
    have hn:=zgf s _ w hw
    rw[zcj,if_neg fun e=>hn (List.mem_append_right _ (List.mem_singleton.2 e.symm))]
   have ih:=zjW s (env++[⟨nm,(vg used n).1⟩]) (bd++[nm]) (bd'++[(vg used n).1]) (vg used n).2 (fun w hw=>by
    rw[zcj]
    by_cases e:nm=w
    ·rw[if_pos e];exact List.mem_append_right _ (by simp)
    ·rw[if_neg e]
     rcases List.mem_append.1 hw with h|h
     ·exact List.mem_append_left _ (h1 w h)
     ·exact absurd (List.mem_singleton.1 h).symm e) (fun w hw=>by
    rcases List.mem_append.1 hw with h|h
    ·exact h2 w h
    ·rw[List.mem_singleton.1 h];exact hv) (fun w hw=>by rw[hc w hw];exact h3 w (List.mem_append_right _ hw))
   rw[ih]
   congr 1
   exact List.map_congr_left hc
  ·rw[if_neg hq]at h3
   rw[if_neg hq,cst,cst,if_neg hq,if_neg hq,List.map_append,hw]
   rw[zjW s env bd bd' n h1 h2 fun w hw=>h3 w (List.mem_append_right _ hw)]
theorem zjW {used:List Str}:∀(fs:List zab) (env:List za8) (bd bd':List Str) (n:Nat),(∀w∈bd,lkp env w∈bd')→(∀w∈bd',w∉used)→(∀w∈zbR fs bd,lkp env w∈used)→
  zbR (za5 (vg used) fs env n).1 bd'=(zbR fs bd).map (lkp env)
 |[],env,bd,bd',n,_,_,_=>by rw[za5,zbR,zbR];rfl
 |f::fs,env,bd,bd',n,h1,h2,h3=>by
  rw[zbR]at h3
  rw[za5,zbR,zbR,List.map_append,zrS f env bd bd' n h1 h2 fun w hw=>h3 w (List.mem_append_left _ hw),zjW fs env bd bd' _ h1 h2 fun w hw=>h3 w (List.mem_append_right _ hw)]
end
mutual
theorem zmw {g:Nat→Str×Nat}:∀(f:zab) (env env':List za8) (n:Nat),(∀w,lkp env' w=w)→ren g (ren g f env n).1 env' n=((ren g f env n).1,(ren g f env n).2)
 | .mk k nm ws s,env,env',n,h=>by
  have hm:∀l:List Str,l.map (lkp env')=l:=fun l=>by
   rw[show lkp env'=id from funext h,List.map_id]
  rw[ren]
  by_cases hq:isQ k
  ·rw[if_pos hq,ren,if_pos hq]
   rw[zgq s _ _ _ (fun w=>by rw[zcj];split;·assumption
                             ·exact h w),hm]
  ·rw[if_neg hq,ren,if_neg hq]
   rw[zgq s env env' n h,hm]
theorem zgq {g:Nat→Str×Nat}:∀(fs:List zab) (env env':List za8) (n:Nat),(∀w,lkp env' w=w)→za5 g (za5 g fs env n).1 env' n=((za5 g fs env n).1,(za5 g fs env n).2)
 |[],env,env',n,_=>by simp[za5]
 |f::fs,env,env',n,h=>by
  rw[za5,za5,zmw f env env' n h,zgq fs env env' _ h]
end
theorem zs9 {b:za8}{u:List Str}:zeZ [b] u=u.map fun w=>if w=b.fr then b.to else w:=rfl
theorem zxY {b:za8}{w:Str}:lkp [b] w=if w=b.fr then b.to else w:=by
 have:=zcj [] b w
 rw[List.nil_append,zfh]at this
 rw[this]
 by_cases h:b.fr=w
 ·rw[if_pos h,if_pos h.symm]
 ·rw[if_neg h,if_neg fun e=>h e.symm]
theorem zkE {env:List za8}{u:List Str}(he:env.length≤1):zeZ env u=u.map (lkp env):=by
 match env,he with
 |[],_=>rw[show lkp []=id from funext zfh,List.map_id];rfl
 |[b],_=>rw[zs9];exact List.map_congr_left fun w _=>zxY.symm
theorem zhE {f:zab}{env:List za8}(he:env.length≤1):zat (zat f env) []=zat f env:=by
 have hc:cst (zat f env) []=(cst f []).map (lkp env):=by
  unfold zat
  refine zrS f env [] [] 0 (by simp) (by simp) fun w hw=>?_
  rw[zkE he]
  exact List.mem_map.2 ⟨w,(zcE f w).2 hw,rfl⟩
 have hv:vg (zeZ [] (zbX (zat f env)))=vg (zeZ env (zbX f)):=by
  refine zvX fun j=>?_
  rw[zkE he,show zeZ [] (zbX (zat f env))=zbX (zat f env)from rfl,zcE,hc,List.mem_map,List.mem_map]
  constructor
  ·rintro⟨w,hw,e⟩;exact⟨w,(zcE f w).2 hw,e⟩
  ·rintro⟨w,hw,e⟩;exact⟨w,(zcE f w).1 hw,e⟩
 have e:zat (zat f env) []=(ren (vg (zeZ env (zbX f))) (zat f env) [] 0).1:=by
  rw[←hv];rfl
 rw[e]
 unfold zat
 rw[zmw f env [] 0 zfh]
structure BF0 (f:zab):Prop where
 b:brF f
 sh:shp false f
 aw:zbu (fun w=>zaq w=true) f
structure BF (f:zab):Prop where
 o:BF0 f
 cn:cnn f=f
theorem BF0.clean {f:zab}(h:BF0 f):clean f:=ziX (fun _ hw=>zmb hw) f h.aw
theorem BF0.sub {f g:zab}(h:BF0 f)(hg:g∈f.subs):BF0 g:=by
 have hs:=h.sh
 have ha:=h.aw
 refine⟨h.b.sub hg,?_,?_⟩
 ·obtain⟨k,nm,ws,s⟩:=f
  rw[shp]at hs
  exact(zkJ s).1 hs.2 g hg
 ·obtain⟨k,nm,ws,s⟩:=f
  rw[zbu]at ha
  exact(zfz _ s).1 ha.2.2 g hg
theorem zqD {used:List Str}{B:Nat}{p:Str→Prop}(hv:∀j,j<B→p (zeW j)):∀m,(∀(f:zab) (env:List za8) (n:Nat),f.size≤m→n+(used.length+1)*f.size≤B→zbu p f→(∀w,p w→p (lkp env w))→zbu p (ren (vg used) f env n).1)∧
  ∀(fs:List zab) (env:List za8) (n:Nat),zab.sizes fs≤m→n+(used.length+1)*zab.sizes fs≤B→zaL p fs→(∀w,p w→p (lkp env w))→zaL p (za5 (vg used) fs env n).1:=by
 intro m
 induction m with
 |zero=>
  refine⟨fun f env n h=>by have:=f.size_pos;omega,fun fs env n h _ _ _=>?_⟩
  cases fs with
  |nil=>rw[za5,zaL];trivial
  |cons f fs=>rw[zab.sizes]at h;have:=f.size_pos;omega
 |succ m ih=>
  have h1:∀(f:zab) (env:List za8) (n:Nat),f.size≤m+1→n+(used.length+1)*f.size≤B→zbu p f→(∀w,p w→p (lkp env w))→zbu p (ren (vg used) f env n).1:=by
   intro f env n hs hn ha he
   obtain⟨k,nm,ws,s⟩:=f
   rw[zab.size]at hs hn
   rw[Nat.mul_add,Nat.mul_one]at hn
   rw[zbu]at ha
   have hw:∀w∈ws.map (lkp env),p w:=fun w hw=>by
    obtain⟨x,hx,rfl⟩:=List.mem_map.1 hw
    exact he x (ha.1 x hx)
   have hg:=zba used n
   rw[ren]
   by_cases hq:isQ k
   ·have hvn:p (zeW (zb8 used n)):=hv _ (by omega)
    rw[if_pos hq,zbu]
    refine⟨hw,fun _=>hvn,ih.2 s _ _ (by omega) ?_ ha.2.2 fun w hw=>?_⟩
    ·show zb8 used n+1+_≤B
     omega
    ·rw[zcj]
     split
     ·exact hvn
     ·exact he w hw
   ·rw[if_neg hq,zbu]
    exact⟨hw,fun h=>absurd h hq,ih.2 s _ _ (by omega) (by omega) ha.2.2 he⟩
  refine⟨h1,fun fs=>?_⟩
  induction fs with
  |nil=>intro env n _ _ _ _;rw[za5,zaL];trivial
  |cons f fs ih2=>
   intro env n hs hn ha he
   rw[zab.sizes]at hs hn
   rw[Nat.mul_add]at hn
   rw[zaL]at ha
   rw[za5,zaL]
   have:=((zmu (zqX used)).1 f env n).2
   exact⟨h1 f env n (by omega) (by omega) ha.1 he,ih2 env _ (by omega) (by omega) ha.2 he⟩
theorem BF0.can {f:zab}{env:List za8}(h:BF0 f)(he:env.length≤1)(hn:∀b∈env,zaq b.to=true):BF (zat f env):=by
 refine⟨⟨h.b.cn,zkw _ f env 0 h.sh,?_⟩,zhE he⟩
 unfold zat
 have h1:=zge f [] h.b.ft
 have h2:=ziA f
 refine(zqD (B:=10^20) (fun j hj=>zmT hj) f.size).1 f env 0 (Nat.le_refl _) ?_ h.aw fun w hw=>?_
 ·rw[zkE he,List.length_map]
  have hs:=h.b.s
  have h3:((zbX f).length+1)*f.size≤800001*800:=Nat.mul_le_mul (by omega) hs
  omega
 ·rcases zsI env w with e|⟨b,hb,e⟩
  ·rw[e];exact hw
  ·rw[e];exact hn b hb
theorem BF0.cn {f:zab}(h:BF0 f):BF (cnn f):=h.can (by simp) (by simp)
theorem BF0.not {f:zab}(h:BF0 f)(hs:f.size+1≤800):BF0 (zsT f):=by
 refine⟨⟨?_,?_,?_⟩,?_,?_⟩
 ·unfold zsT
  rw[vok,zgX,zgX]
  exact⟨by decide,by decide,fun e=>absurd e (by decide),fun e=>absurd e (by decide),fun _=>rfl,fun e=>by omega,h.b.v,trivial⟩
 ·simp[zsT,zab.fit,zab.fits,h.b.ft]
 ·simp only[zsT,zab.size,zab.sizes];omega
 ·unfold zsT
  rw[shp,zdy,zdy]
  refine⟨⟨rfl,rfl,fun e=>?_,fun _=>rfl⟩,h.sh,trivial⟩
  exact absurd (of_decide_eq_true e) (by rw[zae];omega)
 ·exact zsU h.aw
theorem BF0.ng {f:zab}(h:BF0 f)(hs:f.size+1≤800):BF (ngg f):=(h.not hs).can (by simp) (by simp)
theorem zrF:∀(n:Nat) (f:zab),f.size≤n→BF0 f→Vw f
 |0,f,h,_=>by have:=f.size_pos;omega
 |n+1,f,h,hb=>by
  have hv:=zpl.1 hb.b.v
  have hsub:∀g∈f.subs,Vw g:=fun g hg=>zrF n g (by have:=zab.size_sub hg;omega) (hb.sub hg)
  have hs:=hb.sh
  have ha:=hb.aw
  obtain⟨k,nm,ws,s⟩:=f
  rw[shp]at hs
  rw[zbu]at ha
  obtain⟨⟨s1,s2,s3,s4⟩,_⟩:=hs
  simp only[zae,zaR,zbg,zbJ]at hv s1 s2 s3 s4 hsub
  have hp:zbe false (.mk k nm ws s)=zcw k:=by unfold zbe;rw[zae,if_neg (by simp)]
  rw[hp]at s1
  have w0:k≠2→k≠3→ws=[]:=fun h2 h3=>by
   unfold zdf at s2
   rw[zae,zbJ,if_neg h2,if_neg h3]at s2
   exact List.eq_nil_of_length_eq_zero (of_decide_eq_true s2)
  have n0:k≠2→k≠8→k≠9→nm=⟨[]⟩:=fun h2 h8 h9=>s4 (by
   unfold named
   rw[zae]
   exact decide_eq_false (by omega))
  have ze6:(k=1∨k=2∨k=3)→s=[]:=fun h=>by
   unfold zcw at s1
   rw[if_pos h]at s1
   exact List.eq_nil_of_length_eq_zero (by omega)
  by_cases h1:k=1
  ·subst h1
   rw[w0 (by decide) (by decide),n0 (by decide) (by decide) (by decide),ze6 (.inl rfl)]
   exact .t
  by_cases h2:k=2
  ·subst h2
   rw[ze6 (.inr (.inl rfl))]
   exact .p nm ws (s3 rfl (by unfold isQ;decide)) ha.1
  by_cases h3:k=3
  ·subst h3
   rw[n0 (by decide) (by decide) (by decide),ze6 (.inr (.inr rfl))]
   have hl:=hv.2.2.2.1 rfl
   match ws,hl,ha.1 with
   |[a,b],_,hw=>exact .e a b (hw a (by simp)) (hw b (by simp))
  have hw:=w0 h2 h3
  subst hw
  by_cases h4:k=4
  ·subst h4
   rw[n0 (by decide) (by decide) (by decide)]
   have hl:=hv.2.2.2.2.1 (.inl rfl)
   match s,hl,hsub with
   |[a],_,hsub=>exact .n a (hsub a (by simp))
  by_cases h8:k=8∨k=9
  ·have hl:=hv.2.2.2.2.1 (.inr h8)
   match s,hl,hsub with
   |[a],_,hsub=>exact .q k nm a h8 (ha.2.1 h8) (hsub a (by simp))
  have h5:k=5∨k=6∨k=7:=by omega
  rw[n0 h2 (by omega) (by omega)]
  have hl:=hv.2.2.2.2.2.1 h5
  match s,hl,hsub with
  |[a,b],_,hsub=>exact .j k a b h5 (hsub a (by simp)) (hsub b (by simp))
theorem BF0.vw {f:zab}(h:BF0 f):Vw f:=zrF f.size f (Nat.le_refl _) h
theorem txt_eq {f g:zab}(hf:BF0 f)(hg:BF0 g):txt f=txt g↔f=g:=⟨hf.vw.txt_eq hg.vw,fun h=>by rw[h]⟩
end Go.Abs
namespace Go.Abs
open Go
mutual
def shF:zab→Prop
 | .mk k _ _ s=>(k=8∨k=9→s.length=1)∧(k=5∨k=7→s.length=2)∧zo2 s
def zo2:List zab→Prop
 |[]=>True
 |f::fs=>shF f∧zo2 fs
end
theorem zo3:∀l:List zab,zo2 l↔∀f∈l,shF f
 |[]=>by rw[zo2];simp
 |f::l=>by rw[zo2,zo3 l];simp
theorem ztg {f:zab}:shF f↔(f.kind=8∨f.kind=9→f.subs.length=1)∧(f.kind=5∨f.kind=7→f.subs.length=2)∧zo2 f.subs:=by cases f;rw[shF];rfl
theorem znW {f g:zab}(h:shF f)(hg:g∈f.subs):shF g:=(zo3 _).1 (ztg.1 h).2.2 g hg
mutual
theorem zrM {op:Bool}:∀(f:zab) (d:Int) (n:Nat),(chk op f d n).1.code=0→shF f
 | .mk k nm w s,d,n,h=>by
  rw[chk]at h
  split at h
  ·rename_i h1;exact absurd h h1
  ·rename_i h1
   have h3:=(zb9 (Decidable.not_not.1 h1)).2.2.2.2
   simp only[zaR]at h3
   rw[shF]
   refine⟨fun e=>?_,fun e=>?_,zor s _ _ h⟩
   ·have:zbe op (zab.mk k nm w s)=1:=by rcases e with rfl|rfl<;>simp[zbe,zcw,zae]
    omega
   ·have:zbe op (zab.mk k nm w s)=2:=by rcases e with rfl|rfl<;>simp[zbe,zcw,zae]
    omega
theorem zor {op:Bool}:∀(fs:List zab) (d:Int) (n:Nat),(zea op fs d n).1.code=0→zo2 fs
 |[],d,n,_=>by rw[zo2];trivial
 |f::fs,d,n,h=>by
  rw[zea]at h
  split at h
  ·rename_i h1;exact absurd h h1
  ·rename_i h1
   rw[zo2]
   exact⟨zrM f d n (Decidable.not_not.1 h1),zor fs d _ h⟩
end
theorem zpD {op:Bool}{f:zab}(h:(zaX op f).code=0):shF f:=zrM f 1 0 h
mutual
theorem zs6 (g:Nat→Str×Nat):∀(f:zab) (env:List za8) (n:Nat),shF f→shF (ren g f env n).1
 | .mk k nm ws s,env,n,h=>by
  rw[shF]at h
  rw[ren]
  split
  ·rw[shF,zcB];exact⟨h.1,h.2.1,zkA g s _ _ h.2.2⟩
  ·rw[shF,zcB];exact⟨h.1,h.2.1,zkA g s _ _ h.2.2⟩
theorem zkA (g:Nat→Str×Nat):∀(fs:List zab) (env:List za8) (n:Nat),zo2 fs→zo2 (za5 g fs env n).1
 |[],env,n,_=>by rw[za5,zo2];trivial
 |f::fs,env,n,h=>by
  rw[zo2]at h
  rw[za5,zo2]
  exact⟨zs6 g f env n h.1,zkA g fs env _ h.2⟩
end
theorem zpB {f:zab}{env:List za8}(h:shF f):shF (zat f env):=zs6 _ f env 0 h
def ziM (c:zab):zab:=c.subs.getD 0 default
def zco (c:zab):Bool:=(decide (c.kind=8)&&decide ((ziM c).kind=7))||(decide (c.kind=9)&&decide ((ziM c).kind=5))
theorem znh {c:zab}(h:shF c):
  (∃g a b,c.subs=[g]∧g.subs=[a,b]∧ziM c=g∧zco c=true∧(c.kind=8∧g.kind=7∨c.kind=9∧g.kind=5))∨
  (∃g,c.subs=[g]∧zco c=false∧(c.kind=8∧¬g.kind=7∨c.kind=9∧¬g.kind=5))∨(zco c=false∧¬c.kind=8∧¬c.kind=9):=by
 have h1:=ztg.1 h
 by_cases hq:c.kind=8∨c.kind=9
 ·obtain⟨g,hg⟩:∃g,c.subs=[g]:=by
   match hs:c.subs,h1.1 hq with
   |[g],_=>exact⟨g,rfl⟩
  have hh:ziM c=g:=by unfold ziM;rw[hg];rfl
  have hsg:=ztg.1 (znW h (g:=g) (by rw[hg];simp))
  by_cases h5:c.kind=8∧g.kind=7∨c.kind=9∧g.kind=5
  ·obtain⟨a,b,hab⟩:∃a b,g.subs=[a,b]:=by
    match hs:g.subs,hsg.2.1 (by rcases h5 with h5|h5<;>simp[h5.2])with
    |[a,b],_=>exact⟨a,b,rfl⟩
   refine .inl ⟨g,a,b,hg,hab,hh,?_,h5⟩
   unfold zco;rw[hh];rcases h5 with h5|h5<;>simp[h5]
  ·refine .inr (.inl ⟨g,hg,?_,?_⟩)
   ·unfold zco;rw[hh];simp;exact⟨fun e e2=>h5 (.inl ⟨e,e2⟩),fun e e2=>h5 (.inr ⟨e,e2⟩)⟩
   ·rcases hq with e|e
    ·exact .inl ⟨e,fun e2=>h5 (.inl ⟨e,e2⟩)⟩
    ·exact .inr ⟨e,fun e2=>h5 (.inr ⟨e,e2⟩)⟩
 ·refine .inr (.inr ⟨?_,fun e=>hq (.inl e),fun e=>hq (.inr e)⟩)
  unfold zco;simp only[show¬c.kind=8 from fun e=>hq (.inl e),show¬c.kind=9 from fun e=>hq (.inr e)];simp
section
variable (num:Nat→Str)
def lN (i:Nat):Str:=⟨108::(num i).l⟩
def hN (i:Nat):Str:=⟨104::(num i).l⟩
def zFJ (i:Nat)(c:zab):zab:= .mk (ziM c).kind ⟨[]⟩ [] [(ziM c).subs.getD 0 default,.mk 10 (hN num i) [] []]
def zd8 (i:Nat)(c:zab):zbD:=⟨lN num i,.mk c.kind c.name [] [zFJ num i c]⟩
def zkG (c:zab):zab:=(ziM c).subs.getD 1 default
def zcT:Nat→Nat→zab→List zbD×List Str×zab
 |0,_,c=>([],[],c)
 |n+1,i,c=>if zco c=true then(zd8 num i c::(zcT n (i+1) (zkG c)).1,c.name::(zcT n (i+1) (zkG c)).2.1,(zcT n (i+1) (zkG c)).2.2)else([],[],c)
def zx7 (n i:Nat):zjC:=⟨hN num i,lN num n⟩
def ovL (n i:Nat):List zjC:=(List.range i).map (zx7 num n)
theorem zkq {n:Nat}:ovL num n 0=[]:=rfl
theorem zsX {n i:Nat}:(ovL num n i).length=i:=by unfold ovL;simp
theorem zvk {n i:Nat}:ovL num n (i+1)=ovL num n i++[zx7 num n i]:=by
 unfold ovL;rw[List.range_succ,List.map_append];rfl
def zDz (r:List zbD×List Str×zab):zao:=⟨r.1++[⟨lN num r.1.length,r.2.2⟩],ovL num r.1.length r.1.length,r.2.1⟩
def zpK (c:zab):zao:=zDz num (zcT num 5 0 c)
theorem zlq {n i:Nat}{c:zab}(h:zco c=false):zcT num n i c=([],[],c):=by
 cases n with
 |zero=>rw[zcT]
 |succ n=>rw[zcT,if_neg (by simp[h])]
theorem zrT {n i:Nat}{c:zab}(h:zco c=true):zcT num (n+1) i c=(zd8 num i c::(zcT num n (i+1) (zkG c)).1,c.name::(zcT num n (i+1) (zkG c)).2.1,(zcT num n (i+1) (zkG c)).2.2):=by
 rw[zcT,if_pos h]
end
theorem zrU (num:Nat→Str){c c0:zab}{P:List zbD}{W:List Str}(hs:shF c)(hi:P.length≤5)
  (hc:(P++(zcT num (5-P.length) P.length c).1,W++(zcT num (5-P.length) P.length c).2.1,(zcT num (5-P.length) P.length c).2.2)=zcT num 5 0 c0):
  (P.length<5∧∃g a b,c.subs=[g]∧g.subs=[a,b]∧c.kind=8∧g.kind=7∧shF b∧zd8 num P.length c=⟨lN num P.length,.mk 8 c.name [] [.mk 7 ⟨[]⟩ [] [a,.mk 10 (hN num P.length) [] []]]⟩∧
   ((P++[zd8 num P.length c])++(zcT num (5-(P.length+1)) (P.length+1) b).1,(W++[c.name])++(zcT num (5-(P.length+1)) (P.length+1) b).2.1,(zcT num (5-(P.length+1)) (P.length+1) b).2.2)=zcT num 5 0 c0)∨
  (P.length<5∧∃g a b,c.subs=[g]∧g.subs=[a,b]∧c.kind=9∧g.kind=5∧shF b∧zd8 num P.length c=⟨lN num P.length,.mk 9 c.name [] [.mk 5 ⟨[]⟩ [] [a,.mk 10 (hN num P.length) [] []]]⟩∧
   ((P++[zd8 num P.length c])++(zcT num (5-(P.length+1)) (P.length+1) b).1,(W++[c.name])++(zcT num (5-(P.length+1)) (P.length+1) b).2.1,(zcT num (5-(P.length+1)) (P.length+1) b).2.2)=zcT num 5 0 c0)∨
  ((P,W,c)=zcT num 5 0 c0∧P.length<5∧∃g,c.subs=[g]∧c.kind=8∧¬g.kind=7)∨
  ((P,W,c)=zcT num 5 0 c0∧P.length<5∧∃g,c.subs=[g]∧c.kind=9∧¬g.kind=5)∨
  ((P,W,c)=zcT num 5 0 c0∧P.length<5∧¬c.kind=8∧¬c.kind=9)∨
  ((P,W,c)=zcT num 5 0 c0∧P.length=5):=by
 have stop:zco c=false→(P,W,c)=zcT num 5 0 c0:=fun h=>by rw[←hc,zlq num h];simp
 rcases(show P.length<5∨P.length=5 by omega)with h5|h5
 ·have go:∀{g a b:zab},c.subs=[g]→g.subs=[a,b]→ziM c=g→zco c=true→
    shF b∧zd8 num P.length c=⟨lN num P.length,.mk c.kind c.name [] [.mk g.kind ⟨[]⟩ [] [a,.mk 10 (hN num P.length) [] []]]⟩∧
    ((P++[zd8 num P.length c])++(zcT num (5-(P.length+1)) (P.length+1) b).1,(W++[c.name])++(zcT num (5-(P.length+1)) (P.length+1) b).2.1,(zcT num (5-(P.length+1)) (P.length+1) b).2.2)=zcT num 5 0 c0:=fun{g a b} e1 e2 e3 e4=>by
   have hr:zkG c=b:=by unfold zkG;rw[e3,e2];rfl
   refine⟨znW (znW hs (g:=g) (by rw[e1];simp)) (by rw[e2];simp),?_,?_⟩
   ·unfold zd8 zFJ;rw[e3,e2];rfl
   ·rw[←hc,show 5-P.length=(5-(P.length+1))+1 by omega,zrT num e4,hr];simp
  rcases znh hs with⟨g,a,b,e1,e2,e3,e4,⟨h8,h7⟩|⟨h9,h5'⟩⟩|⟨g,e1,e2,⟨h8,h7⟩|⟨h9,h5'⟩⟩|⟨e2,h8,h9⟩
  ·have:=go e1 e2 e3 e4;rw[h8,h7]at this;exact .inl ⟨h5,g,a,b,e1,e2,h8,h7,this⟩
  ·have:=go e1 e2 e3 e4;rw[h9,h5']at this;exact .inr (.inl ⟨h5,g,a,b,e1,e2,h9,h5',this⟩)
  ·exact .inr (.inr (.inl ⟨stop e2,h5,g,e1,h8,h7⟩))
  ·exact .inr (.inr (.inr (.inl ⟨stop e2,h5,g,e1,h9,h5'⟩)))
  ·exact .inr (.inr (.inr (.inr (.inl ⟨stop e2,h5,h8,h9⟩))))
 ·refine .inr (.inr (.inr (.inr (.inr ⟨?_,h5⟩))))
  rw[←hc,h5,zcT];simp
def ziQ:zao:=⟨[],[],[]⟩
end Go.Abs
