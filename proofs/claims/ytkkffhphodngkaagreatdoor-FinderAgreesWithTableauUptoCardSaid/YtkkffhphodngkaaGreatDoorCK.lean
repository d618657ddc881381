import Derived.Test.YtkkffhphodngkaaGreatDoorTX
set_option linter.unusedSimpArgs false
namespace Go.Abs
open Go
def okb (c:UInt8):Bool:=decide (okc c)
def nok (r:List UInt8):Prop:=∀c t,r=c::t→okb c=false
theorem zg8:∀{a b r s:List UInt8},(∀c∈a,okb c=true)→(∀c∈b,okb c=true)→nok r→nok s→a++r=b++s→a=b∧r=s
 |[],[],r,s,_,_,_,_,h=>⟨rfl,h⟩
 |[],y::b,r,s,_,hb,hr,_,h=>by
  have h1:=hr y (b++s) h
  rw[hb y (by simp)]at h1;cases h1
 |x::a,[],r,s,ha,_,_,hs,h=>by
  have h1:=hs x (a++r) h.symm
  rw[ha x (by simp)]at h1;cases h1
 |x::a,y::b,r,s,ha,hb,hr,hs,h=>by
  obtain⟨rfl,h2⟩:=List.cons.inj (show x::(a++r)=y::(b++s)from h)
  obtain⟨rfl,h3⟩:=zg8 (fun c hc=>ha c (by simp[hc])) (fun c hc=>hb c (by simp[hc])) hr hs h2
  exact⟨rfl,h3⟩
theorem zsB:∀{a r:List UInt8},(∀c∈a,okb c=true)→nok r→(a++r).takeWhile okb=a∧(a++r).dropWhile okb=r
 |[],[],_,_=>⟨rfl,rfl⟩
 |[],y::r,_,hr=>by
  have:=hr y r rfl
  simp[this]
 |x::a,r,ha,hr=>by
  have h1:=ha x (by simp)
  obtain⟨h2,h3⟩:=zsB (a:=a) (fun c hc=>ha c (by simp[hc])) hr
  simp[h1,h2,h3]
theorem zbq {c:UInt8}{t:List UInt8}(h:okb c=false):nok (c::t):=fun d u e=>by
 obtain⟨rfl,rfl⟩:=List.cons.inj e;exact h
theorem zb8 {w:Str}(h:zat w=true):∀c∈w.l,okb c=true:=by
 unfold zat at h
 intro c hc
 obtain⟨j,hj,rfl⟩:=List.getElem_of_mem hc
 have:=(of_decide_eq_true h).2.2.2 j hj
 rw[List.getD_eq_getElem?_getD,List.getElem?_eq_getElem hj]at this
 exact decide_eq_true this
theorem zhQ {w:Str}(h:zat w=true):∃c t,w.l=c::t∧zgJ c:=by
 unfold zat at h
 obtain⟨h1,_,h2,_⟩:=of_decide_eq_true h
 match hl:w.l,h1,h2 with
 |c::t,_,h2=>exact⟨c,t,rfl,h2⟩
theorem zm9 {c:UInt8}(h:zgJ c):c≠40∧c≠45∧c≠41∧c≠61:=by
 refine⟨?_,?_,?_,?_⟩<;>(rintro rfl;revert h;decide)
inductive Vw:zab→Prop
 |t:Vw (.mk 1 ⟨[]⟩ [] [])
 |p (nm:Str) (ws:List Str):zat nm=true→(∀w∈ws,zat w=true)→Vw (.mk 2 nm ws [])
 |e (a b:Str):zat a=true→zat b=true→Vw (.mk 3 ⟨[]⟩ [a,b] [])
 |n (a:zab):Vw a→Vw (.mk 4 ⟨[]⟩ [] [a])
 |j (k:Int) (a b:zab):(k=5∨k=6∨k=7)→Vw a→Vw b→Vw (.mk k ⟨[]⟩ [] [a,b])
 |q (k:Int) (nm:Str) (a:zab):(k=8∨k=9)→zat nm=true→Vw a→Vw (.mk k nm [] [a])
def stp (r:List UInt8):Prop:=r=[]∨∃c t,r=c::t∧(c=32∨c=41)
theorem stp.nok {r:List UInt8}(h:stp r):nok r:=by
 rcases h with rfl|⟨c,t,rfl,rfl|rfl⟩
 ·intro c t e;cases e
 ·exact zbq (by decide)
 ·exact zbq (by decide)
theorem stp.h40 {r t:List UInt8}(h:stp r):r≠40::t:=by
 rintro rfl
 rcases h with h|⟨c,u,h,hc⟩
 ·cases h
 ·obtain⟨rfl,_⟩:=List.cons.inj h
  revert hc;decide
theorem zy4 {t:List UInt8}:stp (32::t):= .inr ⟨32,t,rfl,.inl rfl⟩
theorem zy3 {t:List UInt8}:stp (41::t):= .inr ⟨41,t,rfl,.inr rfl⟩
def kap (L:List UInt8):Int:=
 match L with
 |[]=>0
 |c::t=>if c=45 then 4 else if c=40 then(if(t.dropWhile okb).take 2=[32,61]then 3 else 5)
  else if(L.dropWhile okb).head? =some 40 then 2 else if L.takeWhile okb=[116,114,117,101]then 1 else if L.takeWhile okb=[97,108,108]then 8 else 9
def kaf (k:Int):Int:=if k=5∨k=6∨k=7 then 5 else k
theorem zla {a r:List UInt8}{c:UInt8}{t:List UInt8}(ha:∀c∈a,okb c=true)(hr:nok r)(hc:a=c::t)(h1:c≠45)(h2:c≠40):
  kap (a++r)=if r.head? =some 40 then 2 else if a=[116,114,117,101]then 1 else if a=[97,108,108]then 8 else 9:=by
 obtain⟨e1,e2⟩:=zsB ha hr
 subst hc
 rw[List.cons_append]at e1 e2 ⊢
 unfold kap
 simp only[if_neg h1,if_neg h2]
 rw[e1,e2]
theorem zzf:txt (.mk 1 ⟨[]⟩ [] [])=[116,114,117,101]:=zH1 rfl
theorem zqS {nm ws s}:txt (.mk 2 nm ws s)=nm.l++40::(jn [44] ws++[41]):=by rw[zH2 rfl,zb2,zct];simp
theorem zqT {a b:Str}{s}:txt (.mk 3 ⟨[]⟩ [a,b] s)=40::(a.l++(32::61::32::(b.l++[41]))):=by rw[zH3 rfl,zb2,zct];simp[jn]
theorem zqU {nm ws a}:txt (.mk 4 nm ws [a])=45::txt a:=zH4 rfl rfl
def sg2 (k:Int):UInt8:=if k=5 then 38 else if k=6 then 124 else 62
theorem zqV {k:Int}{nm ws a b}(h:k=5∨k=6∨k=7):txt (.mk k nm ws [a,b])=40::(txt a++(32::sg2 k::32::(txt b++[41]))):=by
 rw[zH5 (f:= .mk k nm ws [a,b]) h rfl,zah]
 have:sgn k=[32,sg2 k,32]:=by unfold sgn sg2;split<;>(try split)<;>rfl
 rw[this];simp
def qs (k:Int):List UInt8:=if k=8 then[97,108,108]else[115,111,109,101]
theorem zqW {k:Int}{nm ws a}(h:k=8∨k=9):txt (.mk k nm ws [a])=qs k++(32::(nm.l++(32::txt a))):=by
 rcases h with rfl|rfl
 ·rw[zH6 (f:= .mk 8 nm ws [a]) rfl rfl,zb2];simp[qs]
 ·rw[zH7 (f:= .mk 9 nm ws [a]) rfl rfl,zb2];simp[qs]
theorem zAE (k:Int):(∀c∈qs k,okb c=true)∧(∃c t,qs k=c::t∧c≠45∧c≠40):=by
 unfold qs
 split
 ·exact⟨by decide,97,[108,108],rfl,by decide,by decide⟩
 ·exact⟨by decide,115,[111,109,101],rfl,by decide,by decide⟩
theorem Vw.noeq {f:zab}(h:Vw f):∀(c:UInt8) (t:List UInt8),c≠61→((txt f++32::c::t).dropWhile okb).take 2≠[32,61]:=by
 have n40:okb 40=false:=by decide
 have o45:okb 45=true:=by decide
 induction h with
 |t=>
  intro c t hc
  rw[zzf,(zsB (by decide) (zbq (by decide))).2]
  simpa using hc
 |p nm ws h1 h2=>
  intro c t hc
  rw[zqS,List.append_assoc,List.cons_append,(zsB (zb8 h1) (zbq n40)).2]
  simp
 |e a b h1 h2=>
  intro c t hc
  rw[zqT,List.cons_append,List.dropWhile_cons_of_neg (by simp[n40])]
  simp
 |n a _ ih=>
  intro c t hc
  rw[zqU,List.cons_append,List.dropWhile_cons_of_pos o45]
  exact ih c t hc
 |j k a b hk _ _ _ _=>
  intro c t hc
  rw[zqV hk,List.cons_append,List.dropWhile_cons_of_neg (by simp[n40])]
  simp
 |q k nm a hk h1 _ _=>
  intro c t hc
  obtain⟨d,u,hd,hl⟩:=zhQ h1
  rw[zqW hk,List.append_assoc,List.cons_append,(zsB (zAE k).1 (zbq (by decide))).2,hd]
  have:=(zm9 hl).2.2.2
  simpa using this
theorem zD3 (k:Int):sg2 k≠61:=by unfold sg2;split<;>(try split)<;>decide
theorem Vw.kap {f:zab}(h:Vw f){r:List UInt8}(hr:stp r):kap (txt f++r)=kaf f.kind:=by
 cases h with
 |t=>
  rw[zzf,zla (by decide) hr.nok rfl (by decide) (by decide)]
  have:r.head? ≠some 40:=by
   rcases hr with rfl|⟨c,t,rfl,rfl|rfl⟩<;>simp
  rw[if_neg this];rfl
 |p nm ws h1 h2=>
  obtain⟨d,u,hd,hl⟩:=zhQ h1
  rw[zqS,List.append_assoc,List.cons_append,zla (zb8 h1) (zbq (by decide)) hd (zm9 hl).2.1 (zm9 hl).1]
  simp[kaf,zah]
 |e a b h1 h2=>
  rw[zqT,List.cons_append]
  unfold Go.Abs.kap
  simp only[if_neg (show¬((40:UInt8)=45) by decide),if_true]
  rw[List.append_assoc,List.cons_append,List.cons_append,(zsB (zb8 h1) (zbq (by decide))).2]
  simp[kaf,zah]
 |n a _=>
  rw[zqU,List.cons_append]
  unfold Go.Abs.kap
  simp[kaf,zah]
 |j k a b hk ha _=>
  rw[zqV hk,List.cons_append,List.append_assoc,List.cons_append,List.cons_append]
  unfold Go.Abs.kap
  simp only[if_neg (show¬((40:UInt8)=45) by decide),if_true]
  rw[if_neg (ha.noeq _ _ (zD3 k))]
  unfold kaf;rw[zah,if_pos hk]
 |q k nm a hk h1 _=>
  obtain⟨c,t,hq,q1,q2⟩:=(zAE k).2
  rw[zqW hk,List.append_assoc,List.cons_append,zla (zAE k).1 (zbq (by decide)) hq q1 q2]
  rcases hk with rfl|rfl<;>simp[kaf,zah,qs]
theorem zp8:∀{ws vs:List Str} {r s:List UInt8},(∀w∈ws,zat w=true)→(∀w∈vs,zat w=true)→(ws.flatMap fun v=>[44]++v.l)++41::r=(vs.flatMap fun v=>[44]++v.l)++41::s→ws=vs∧r=s
 |[],[],r,s,_,_,h=>⟨rfl,(List.cons.inj h).2⟩
 |[],v::vs,r,s,_,_,h=>by simp at h
 |w::ws,[],r,s,_,_,h=>by simp at h
 |w::ws,v::vs,r,s,hw,hv,h=>by
  rw[List.flatMap_cons,List.flatMap_cons]at h
  simp only[List.cons_append,List.nil_append,List.append_assoc,List.cons.injEq,true_and]at h
  have nk:∀(l:List Str) (t:List UInt8),nok ((l.flatMap fun v=>44::v.l)++41::t):=fun l t=>by
   cases l with
   |nil=>exact zbq (by decide)
   |cons a l=>rw[List.flatMap_cons,List.cons_append,List.cons_append];exact zbq (by decide)
  obtain⟨h1,h2⟩:=zg8 (zb8 (hw w (by simp))) (zb8 (hv v (by simp))) (nk _ _) (nk _ _) h
  obtain⟨h3,h4⟩:=zp8 (ws:=ws) (vs:=vs) (r:=r) (s:=s) (fun x hx=>hw x (by simp[hx])) (fun x hx=>hv x (by simp[hx])) h2
  refine⟨?_,h4⟩
  rw[h3,show w=v from by cases w;cases v;exact congrArg Str.mk h1]
theorem zCQ {ws vs:List Str}{r s:List UInt8}(hw:∀w∈ws,zat w=true)(hv:∀w∈vs,zat w=true)(h:jn [44] ws++41::r=jn [44] vs++41::s):ws=vs∧r=s:=by
 cases ws with
 |nil=>
  cases vs with
  |nil=>exact⟨rfl,(List.cons.inj h).2⟩
  |cons v vs=>
   obtain⟨d,u,hd,hl⟩:=zhQ (hv v (by simp))
   rw[jn,jn,hd]at h
   have:=(List.cons.inj h).1
   exact absurd this.symm (zm9 hl).2.2.1
 |cons w ws=>
  cases vs with
  |nil=>
   obtain⟨d,u,hd,hl⟩:=zhQ (hw w (by simp))
   rw[jn,jn,hd]at h
   have:=(List.cons.inj h).1
   exact absurd this (zm9 hl).2.2.1
  |cons v vs=>
   refine zp8 hw hv ?_
   rw[List.flatMap_cons,List.flatMap_cons]
   rw[jn,jn]at h
   simpa using h
theorem zqK {a b:Str}(h:a.l=b.l):a=b:=by cases a;cases b;exact congrArg Str.mk h
theorem Vw.inj {f:zab}(hf:Vw f):∀{g:zab},Vw g→∀{r s:List UInt8},stp r→stp s→txt f++r=txt g++s→f=g∧r=s:=by
 induction hf with
 |t=>
  intro g hg r s hr hs h
  have hk:=(Vw.t.kap hr).symm.trans ((congrArg Go.Abs.kap h).trans (hg.kap hs))
  cases hg with
  |t=>exact⟨rfl,List.append_cancel_left h⟩
  |p=>simp[kaf,zah]at hk
  |e=>simp[kaf,zah]at hk
  |n=>simp[kaf,zah]at hk
  |j k a b hk2=>exfalso;rw[zah,zah,show kaf k=5 by unfold kaf;rw[if_pos hk2]]at hk;revert hk;decide
  |q k nm a hk2=>exfalso;rcases hk2 with rfl|rfl<;>simp[kaf,zah]at hk
 |p nm ws h1 h2=>
  intro g hg r s hr hs h
  have hk:=((Vw.p nm ws h1 h2).kap hr).symm.trans ((congrArg Go.Abs.kap h).trans (hg.kap hs))
  cases hg with
  |t=>simp[kaf,zah]at hk
  |p nm' ws' h1' h2'=>
   rw[zqS,zqS]at h
   simp only[List.append_assoc,List.cons_append,List.nil_append]at h
   obtain⟨e1,e2⟩:=zg8 (zb8 h1) (zb8 h1') (zbq (by decide)) (zbq (by decide)) h
   obtain⟨e3,e4⟩:=zCQ h2 h2' (List.cons.inj e2).2
   exact⟨by rw[zqK e1,e3],e4⟩
  |e=>simp[kaf,zah]at hk
  |n=>simp[kaf,zah]at hk
  |j k a b hk2=>exfalso;rw[zah,zah,show kaf k=5 by unfold kaf;rw[if_pos hk2]]at hk;revert hk;decide
  |q k nm a hk2=>exfalso;rcases hk2 with rfl|rfl<;>simp[kaf,zah]at hk
 |e a b h1 h2=>
  intro g hg r s hr hs h
  have hk:=((Vw.e a b h1 h2).kap hr).symm.trans ((congrArg Go.Abs.kap h).trans (hg.kap hs))
  cases hg with
  |t=>simp[kaf,zah]at hk
  |p=>simp[kaf,zah]at hk
  |e a' b' h1' h2'=>
   rw[zqT,zqT]at h
   simp only[List.append_assoc,List.cons_append,List.nil_append,List.cons.injEq,true_and]at h
   obtain⟨e1,e2⟩:=zg8 (zb8 h1) (zb8 h1') (zbq (by decide)) (zbq (by decide)) h
   simp only[List.cons.injEq,true_and]at e2
   obtain⟨e3,e4⟩:=zg8 (zb8 h2) (zb8 h2') (zbq (by decide)) (zbq (by decide)) e2
   exact⟨by rw[zqK e1,zqK e3],(List.cons.inj e4).2⟩
  |n=>simp[kaf,zah]at hk
  |j k a b hk2=>exfalso;rw[zah,zah,show kaf k=5 by unfold kaf;rw[if_pos hk2]]at hk;revert hk;decide
  |q k nm a hk2=>exfalso;rcases hk2 with rfl|rfl<;>simp[kaf,zah]at hk
 |n a ha ih=>
  intro g hg r s hr hs h
  have hk:=((Vw.n a ha).kap hr).symm.trans ((congrArg Go.Abs.kap h).trans (hg.kap hs))
  cases hg with
  |t=>simp[kaf,zah]at hk
  |p=>simp[kaf,zah]at hk
  |e=>simp[kaf,zah]at hk
  |n a' ha'=>
   rw[zqU,zqU]at h
   obtain⟨e1,e2⟩:=ih ha' hr hs (List.cons.inj h).2
   exact⟨by rw[e1],e2⟩
  |j k a b hk2=>exfalso;rw[zah,zah,show kaf k=5 by unfold kaf;rw[if_pos hk2]]at hk;revert hk;decide
  |q k nm a hk2=>exfalso;rcases hk2 with rfl|rfl<;>simp[kaf,zah]at hk
 |j k a b hk1 ha hb iha ihb=>
  intro g hg r s hr hs h
  have hk:=((Vw.j k a b hk1 ha hb).kap hr).symm.trans ((congrArg Go.Abs.kap h).trans (hg.kap hs))
  have h5:kaf k=5:=by unfold kaf;rw[if_pos hk1]
  rw[zah,h5]at hk
  cases hg with
  |t=>simp[kaf,zah]at hk
  |p=>simp[kaf,zah]at hk
  |e=>simp[kaf,zah]at hk
  |n=>simp[kaf,zah]at hk
  |j k' a' b' hk2 ha' hb'=>
   rw[zqV hk1,zqV hk2]at h
   simp only[List.append_assoc,List.cons_append,List.nil_append,List.cons.injEq,true_and]at h
   obtain⟨e1,e2⟩:=iha ha' zy4 zy4 h
   simp only[List.cons.injEq,true_and]at e2
   obtain⟨e3,e4⟩:=e2
   obtain⟨e5,e6⟩:=ihb hb' zy3 zy3 e4
   have ek:k=k':=by
    rcases hk1 with rfl|rfl|rfl<;>rcases hk2 with rfl|rfl|rfl<;>first|rfl|(exfalso;revert e3;decide)
   exact⟨by rw[ek,e1,e5],(List.cons.inj e6).2⟩
  |q k nm a hk2=>exfalso;rcases hk2 with rfl|rfl<;>simp[kaf,zah]at hk
 |q k nm a hk1 h1 ha ih=>
  intro g hg r s hr hs h
  have hk:=((Vw.q k nm a hk1 h1 ha).kap hr).symm.trans ((congrArg Go.Abs.kap h).trans (hg.kap hs))
  have h8:kaf k=k:=by unfold kaf;rw[if_neg (by omega)]
  rw[zah,h8]at hk
  cases hg with
  |t=>rcases hk1 with rfl|rfl<;>simp[kaf,zah]at hk
  |p=>rcases hk1 with rfl|rfl<;>simp[kaf,zah]at hk
  |e=>rcases hk1 with rfl|rfl<;>simp[kaf,zah]at hk
  |n=>rcases hk1 with rfl|rfl<;>simp[kaf,zah]at hk
  |j k' a b hk2=>exfalso;unfold kaf at hk;simp only[zah,if_pos hk2]at hk;omega
  |q k' nm' a' hk2 h1' ha'=>
   have h8':kaf k'=k':=by unfold kaf;rw[if_neg (by omega)]
   rw[zah,h8']at hk
   subst hk
   rw[zqW hk1,zqW hk1]at h
   simp only[List.append_assoc,List.cons_append,List.nil_append]at h
   have h:=List.append_cancel_left h
   simp only[List.cons.injEq,true_and]at h
   obtain⟨e1,e2⟩:=zg8 (zb8 h1) (zb8 h1') (zbq (by decide)) (zbq (by decide)) h
   obtain⟨e3,e4⟩:=ih ha' hr hs (List.cons.inj e2).2
   exact⟨by rw[zqK e1,e3],e4⟩
theorem Vw.txt_eq {f g:zab}(hf:Vw f)(hg:Vw g)(h:txt f=txt g):f=g:=(hf.inj hg (.inl rfl) (.inl rfl) (by rw[h])).1
end Go.Abs
