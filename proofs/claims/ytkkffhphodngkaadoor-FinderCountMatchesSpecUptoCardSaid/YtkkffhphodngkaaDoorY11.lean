/- several texts of this proof in one; no conditions -/
import Derived.Test.YtkkffhphodngkaaDoorTB
import Derived.Test.YtkkffhphodngkaaDoorPV
import Derived.Test.YtkkffhphodngkaaDoorST
import Derived.Test.YtkkffhphodngkaaDoorPW
import Derived.Test.YtkkffhphodngkaaDoorAE
import Derived.Test.YtkkffhphodngkaaDoorVP
set_option linter.unusedSimpArgs false
namespace Go.Abs
open Go
structure Pd where
 name:Str
 arity:Int
 deriving DecidableEq
instance:Inhabited Pd:=⟨⟨⟨[]⟩,0⟩⟩
instance:Enc Pd:=⟨fun c=> .agg [.s c.name.l,.i .i64 c.arity],fun x=>match x with| .agg [.s a,.i _ n]=>⟨⟨a⟩,n⟩|_=>default,fun c=>by cases c;rfl⟩
@[go_sem] theorem zlr {c:Pd}:enc c= .agg [.s c.name.l,.i .i64 c.arity]:=rfl
instance:Kc Pd 2:=⟨fun _=>rfl⟩
def ltP (a b:Pd):Prop:=a.name.l<b.name.l∨(a.name=b.name∧a.arity<b.arity)
instance (a b:Pd):Decidable (ltP a b):=by unfold ltP;exact inferInstance
theorem ze0 {a:Pd}:¬ltP a a:=fun h=>by
 rcases h with h|⟨_,h⟩
 ·exact zdQ h
 ·omega
theorem zf0 {a b c:Pd}(h:ltP a b)(h2:ltP b c):ltP a c:=by
 rcases h with h|⟨e,h⟩<;>rcases h2 with h2|⟨e2,h2⟩
 ·exact .inl (zjO h h2)
 ·exact .inl (e2▸h)
 ·exact .inl (e▸h2)
 ·exact .inr ⟨e.trans e2,by omega⟩
theorem zns {a b:Pd}(h:¬ltP a b)(h2:a≠b):ltP b a:=by
 by_cases hn:a.name=b.name
 ·refine .inr ⟨hn.symm,?_⟩
  have h3:¬a.arity<b.arity:=fun h3=>h (.inr ⟨hn,h3⟩)
  have h4:a.arity≠b.arity:=fun e=>h2 (by cases a;cases b;simp_all)
  omega
 ·exact .inl (zvn (fun h3=>h (.inl h3)) (zvT hn))
def zu0 (l:List Pd):Prop:=l.Pairwise ltP
theorem zo1:∀{a b:List Pd},zu0 a→zu0 b→(∀x,x∈a↔x∈b)→a=b
 |[],[],_,_,_=>rfl
 |[],y::b,_,_,h=>absurd ((h y).2 (by simp)) (by simp)
 |x::a,[],_,_,h=>absurd ((h x).1 (by simp)) (by simp)
 |x::a,y::b,ha,hb,h=>by
  have ha':=List.pairwise_cons.1 ha
  have hb':=List.pairwise_cons.1 hb
  have e:x=y:=by
   refine Classical.byContradiction fun hne=>?_
   have h1:x∈b:=by
    rcases List.mem_cons.1 ((h x).1 (by simp))with h1|h1
    ·exact absurd h1 hne
    ·exact h1
   have h2:y∈a:=by
    rcases List.mem_cons.1 ((h y).2 (by simp))with h2|h2
    ·exact absurd h2.symm hne
    ·exact h2
   exact ze0 (zf0 (ha'.1 y h2) (hb'.1 x h1))
  subst e
  rw[zo1 ha'.2 hb'.2 fun z=>?_]
  have hz:=h z
  simp only[List.mem_cons]at hz
  constructor
  ·intro hza
   rcases hz.1 (.inr hza)with e|h1
   ·rw[e]at hza;exact absurd (ha'.1 x hza) ze0
   ·exact h1
  ·intro hzb
   rcases hz.2 (.inr hzb)with e|h1
   ·rw[e]at hzb;exact absurd (hb'.1 x hzb) ze0
   ·exact h1
mutual
def pds:zaf→List Pd
 | .mk k nm ws s=>(if k=2 then[⟨nm,(ws.length:Int)⟩]else[])++zcO s
def zcO:List zaf→List Pd
 |[]=>[]
 |f::fs=>pds f++zcO fs
end
theorem zhv {x:Pd}:∀{l:List zaf},x∈zcO l↔∃f∈l,x∈pds f
 |[]=>by simp[zcO]
 |f::fs=>by rw[zcO,List.mem_append,zhv (l:=fs)];simp
def ziP:List Pd→Pd→List Pd
 |[],p=>[p]
 |x::l,p=>if ltP x p then x::ziP l p else if x=p then x::l else p::x::l
theorem zkk {x p:Pd}:∀{l:List Pd},x∈ziP l p↔x∈l∨x=p
 |[]=>by simp[ziP]
 |y::l=>by
  rw[ziP]
  split
  ·rw[List.mem_cons,zkk (l:=l),List.mem_cons,or_assoc]
  ·split
   ·rename_i e;subst e
    constructor
    ·exact .inl
    ·rintro(h|rfl)
     ·exact h
     ·simp
   ·simp only[List.mem_cons]
    constructor
    ·rintro(h|h|h)
     ·exact .inr h
     ·exact .inl (.inl h)
     ·exact .inl (.inr h)
    ·rintro((h|h)|h)
     ·exact .inr (.inl h)
     ·exact .inr (.inr h)
     ·exact .inl h
theorem zox {p:Pd}:∀{l:List Pd},zu0 l→zu0 (ziP l p)
 |[],_=>by simp[ziP,zu0]
 |y::l,h=>by
  have h':=List.pairwise_cons.1 h
  rw[ziP]
  split
  ·rename_i hy
   refine List.pairwise_cons.2 ⟨fun z hz=>?_,zox h'.2⟩
   rcases zkk.1 hz with hz|rfl
   ·exact h'.1 z hz
   ·exact hy
  ·split
   ·exact h
   ·rename_i h1 h2
    have h3:=zns h1 h2
    refine List.pairwise_cons.2 ⟨fun z hz=>?_,h⟩
    rcases List.mem_cons.1 hz with rfl|hz
    ·exact h3
    ·exact zf0 h3 (h'.1 z hz)
def zhx (l:List Pd)(ps:List Pd):List Pd:=ps.foldl ziP l
def zeq (fs:List zaf):List Pd:=zhx [] (zcO fs)
theorem zoX:∀(ps l:List Pd),zu0 l→zu0 (zhx l ps)
 |[],_,h=>h
 |p::ps,l,h=>zoX ps (ziP l p) (zox h)
theorem zoW {x:Pd}:∀(ps l:List Pd),x∈zhx l ps↔x∈l∨x∈ps
 |[],l=>by simp[zhx]
 |p::ps,l=>by
  show x∈zhx (ziP l p) ps↔_
  rw[zoW ps (ziP l p),zkk,List.mem_cons,or_assoc]
theorem zoY (fs:List zaf):zu0 (zeq fs):=zoX _ _ List.Pairwise.nil
theorem zkG {fs:List zaf}{x:Pd}:x∈zeq fs↔∃f∈fs,x∈pds f:=by
 unfold zeq
 rw[zoW,zhv];simp
def zdu (l:List Pd)(p:Pd):List Pd:=if p∈l then l else l++[p]
def zdt (l:List Pd)(ps:List Pd):List Pd:=ps.foldl zdu l
theorem zpo {l:List Pd}{p x:Pd}:x∈zdu l p↔x∈l∨x=p:=by
 unfold zdu
 split
 ·rename_i h
  constructor
  ·exact .inl
  ·rintro(h2|rfl)
   ·exact h2
   ·exact h
 ·simp
theorem zkR {l:List Pd}{p:Pd}(h:l.Pairwise (· ≠·)):(zdu l p).Pairwise (· ≠·):=by
 unfold zdu
 split
 ·exact h
 ·rename_i hp
  rw[List.pairwise_append]
  refine⟨h,by simp,fun a ha b hb e=>?_⟩
  rw[List.mem_singleton.1 hb]at e
  exact hp (e▸ha)
theorem ziK {x:Pd}:∀(ps l:List Pd),x∈zdt l ps↔x∈l∨x∈ps
 |[],l=>by simp[zdt]
 |p::ps,l=>by
  show x∈zdt (zdu l p) ps↔_
  rw[ziK ps,zpo,List.mem_cons,or_assoc]
theorem ziL:∀(ps l:List Pd),l.Pairwise (· ≠·)→(zdt l ps).Pairwise (· ≠·)
 |[],_,h=>h
 |_::ps,_,h=>ziL ps _ (zkR h)
theorem zgf:∀(ps l:List Pd),(zdt l ps).length≤l.length+ps.length
 |[],l=>by simp[zdt]
 |p::ps,l=>by
  show(zdt (zdu l p) ps).length≤_
  have h:=zgf ps (zdu l p)
  have h2:(zdu l p).length≤l.length+1:=by unfold zdu;split<;>simp
  simp only[List.length_cons];omega
theorem zqx {fs:List zaf}{U S:List Pd}(hU:∀x,x∈U↔∃f∈fs,x∈pds f)(hn:U.Pairwise (· ≠·))(hp:S.Perm U)(hs:S.Pairwise fun a b=>¬ltP b a):S=zeq fs:=by
 refine zo1 ?_ (zoY fs) fun x=>?_
 ·have hn2:S.Pairwise (· ≠·):=(hp.pairwise_iff (fun{a b} h=>Ne.symm h)).2 hn
  refine List.Pairwise.imp₂ (fun a b h1 h2=>?_) hs hn2
  exact Classical.byContradiction fun h3=>h1 (zns h3 h2)
 ·rw[hp.mem_iff,hU,zkG]
end Go.Abs
namespace Go.Abs
open Go
theorem zod:∀(a x y:List Int),zc9 (a++x) (a++y)=zc9 x y
 |[],_,_=>rfl
 |h::a,x,y=>by
  rw[List.cons_append,List.cons_append,zc9,if_neg (by rw[zex.2 rfl];simp),zod a x y]
theorem zoc:∀{a b:List Int} (x y:List Int),a.length=b.length→zc9 a b<0→zc9 (a++x) (b++y)<0
 |[],[],_,_,_,h=>by simp[zc9]at h
 |[],_::_,_,_,hl,_=>by simp at hl
 |_::_,[],_,_,hl,_=>by simp at hl
 |p::a,q::b,x,y,hl,h=>by
  rw[List.cons_append,List.cons_append,zc9]
  rw[zc9]at h
  split
  ·rename_i hc;rw[if_pos hc]at h;exact h
  ·rename_i hc;rw[if_neg hc]at h;exact zoc x y (by simpa using hl) h
theorem zrz {s:Nat}(hs:0<s):∀(k i j:Nat),i<j→j<s^k→zc9 (zaR s k i) (zaR s k j)<0
 |0,i,j,h,hj=>by simp at hj;omega
 |k+1,i,j,h,hj=>by
  rw[zaR,zaR]
  by_cases hq:i / s=j / s
  ·rw[hq,zod,zc9,if_pos]
   ·rw[zob]
    have h1:=Nat.div_add_mod i s
    have h2:=Nat.div_add_mod j s
    rw[hq]at h1
    omega
   ·intro e
    rw[zex]at e
    have h1:=Nat.div_add_mod i s
    have h2:=Nat.div_add_mod j s
    rw[hq]at h1
    omega
  ·have h3:i / s<j / s:=Nat.lt_of_le_of_ne (Nat.div_le_div_right (Nat.le_of_lt h)) hq
   refine zoc _ _ (by rw[zaS,zaS]) (zrz hs k _ _ h3 ?_)
   rw[Nat.pow_succ]at hj
   exact Nat.div_lt_of_lt_mul (by rw[Nat.mul_comm];exact hj)
def zhi:List Nat→Nat
 |[]=>1
 |t::ts=>t*zhi ts
theorem zl9:∀(a b:List Nat),zhi (a++b)=zhi a*zhi b
 |[],b=>by simp[zhi]
 |x::a,b=>by rw[List.cons_append,zhi,zhi,zl9 a b,Nat.mul_assoc]
theorem zit (s:Nat):∀c,zhi (List.replicate c s)=s^c
 |0=>rfl
 |c+1=>by rw[List.replicate_succ,zhi,zit s c,Nat.pow_succ,Nat.mul_comm]
def zm0:Nat→List Nat→Option Nat
 |n,[]=>some n
 |n,t::ts=>if 8192<n*t then none else zm0 (n*t) ts
theorem zkY:∀{ts:List Nat} {n r:Nat},(∀t∈ts,1≤t)→n≤8192→zm0 n ts=some r→r=n*zhi ts∧r≤8192
 |[],n,r,_,hn,h=>by
  simp only[zm0,Option.some.injEq]at h
  subst h
  exact⟨by simp[zhi],hn⟩
 |t::ts,n,r,h1,hn,h=>by
  rw[zm0]at h
  split at h
  ·cases h
  ·rename_i h2
   obtain⟨h3,h4⟩:=zkY (fun x hx=>h1 x (by simp[hx])) (by omega) h
   exact⟨by rw[h3,zhi,Nat.mul_assoc],h4⟩
def zqi (size:Nat)(p:Pd):Nat:=size^p.arity.toNat
def zaQ (size:Nat):List Pd→Nat
 |[]=>0
 |p::ps=>zqi size p+zaQ size ps
def zkL (size:Nat):List Pd→List Nat
 |[]=>[]
 |p::ps=>List.replicate (zqi size p) 2++zkL size ps
def zqC (size c:Nat)(ps:List Pd):List Nat:=List.replicate c size++zkL size ps
theorem zgd (size:Nat):∀ps:List Pd,zkL size ps=List.replicate (zaQ size ps) 2
 |[]=>rfl
 |p::ps=>by rw[zkL,zaQ,zgd size ps,List.replicate_append_replicate]
theorem zuK {size:Nat}(h:1≤size)(p:Pd):1≤zqi size p:=Nat.pow_pos (by omega)
theorem zkZ {size:Nat}(h:1≤size):∀ps:List Pd,ps.length≤zaQ size ps
 |[]=>Nat.le_refl _
 |p::ps=>by
  have h1:=zkZ h ps
  have h2:=zuK h p
  rw[zaQ,List.length_cons];omega
theorem zu6 {size c:Nat}{ps:List Pd}(h:1≤size):∀t∈zqC size c ps,1≤t:=fun t ht=>by
 unfold zqC at ht
 rw[zgd]at ht
 rcases List.mem_append.1 ht with ht|ht
 ·rw[(List.mem_replicate.1 ht).2];exact h
 ·rw[(List.mem_replicate.1 ht).2];omega
def zeu (size c:Nat)(ps:List Pd):Option Nat:=zm0 1 (zqC size c ps)
theorem zc3 {size c:Nat}{ps:List Pd}{r:Nat}(h:1≤size)(hr:zeu size c ps=some r):r=size^c*2^zaQ size ps∧r≤8192∧zaQ size ps≤13:=by
 obtain⟨h1,h2⟩:=zkY (zu6 h) (by omega) hr
 unfold zqC at h1
 rw[zgd,zl9,zit,zit,Nat.one_mul]at h1
 refine⟨h1,h2,?_⟩
 refine Classical.byContradiction fun hc=>?_
 have h3:2^14≤2^zaQ size ps:=Nat.pow_le_pow_right (by omega) (by omega)
 have h4:1≤size^c:=Nat.pow_pos (by omega)
 have h5:1*2^14≤size^c*2^zaQ size ps:=Nat.mul_le_mul h4 h3
 have h6:(2:Nat)^14=16384:=by decide
 omega
def zpu (cells n:Nat):List Bool:=(zaR 2 cells n).map fun d=>decide (d=1)
def znL (size ar:Nat)(bits:List Bool):List (List Int):=((List.range (size^ar)).filter fun k=>bits.getD k false).map (zaR size ar)
def zfo (size:Nat):List Pd→List Bool→List zdq
 |[],_=>[]
 |p::ps,bits=>⟨p.name,p.arity,znL size p.arity.toNat bits⟩::zfo size ps (bits.drop (zqi size p))
def zdg (names:List Str)(ps:List Pd)(size n:Nat):zal:=⟨size,List.zipWith zaF.mk names (zaR size names.length (n / 2^zaQ size ps)),zfo size ps (zpu (zaQ size ps) n)⟩
theorem zky (size:Nat):∀(ps:List Pd) (bits:List Bool),(zfo size ps bits).map (fun r=>(⟨r.name,r.arity⟩:Pd))=ps
 |[],_=>rfl
 |p::ps,bits=>by rw[zfo,List.map_cons,zky size ps]
theorem ziw (size:Nat)(ps:List Pd)(bits:List Bool):(zfo size ps bits).length=ps.length:=by
 have h:=congrArg List.length (zky size ps bits)
 simpa using h
theorem zf6 {size:Nat}:∀{ps:List Pd} {bits:List Bool} {r:zdq},r∈zfo size ps bits→∃p∈ps,∃b,r=⟨p.name,p.arity,znL size p.arity.toNat b⟩
 |[],_,r,h=>by simp[zfo]at h
 |p::ps,bits,r,h=>by
  rw[zfo]at h
  rcases List.mem_cons.1 h with rfl|h
  ·exact⟨p,by simp,_,rfl⟩
  ·obtain⟨q,hq,b,e⟩:=zf6 h
   exact⟨q,by simp[hq],b,e⟩
theorem zu9 {size ar:Nat}{bits:List Bool}(hs:0<size):(znL size ar bits).Pairwise fun a b=>zc9 a b<0:=by
 unfold znL
 rw[List.pairwise_map]
 refine List.Pairwise.filter _ ?_
 refine List.Pairwise.imp_of_mem (fun{a b} ha hb h=>?_) List.pairwise_lt_range
 exact zrz hs ar a b h (List.mem_range.1 hb)
theorem zu8 {size ar:Nat}{bits:List Bool}(hs:0<size){t:List Int}(h:t∈znL size ar bits):t.length=ar∧∀v∈t,0≤v∧v<(size:Int):=by
 unfold znL at h
 obtain⟨k,_,rfl⟩:=List.mem_map.1 h
 exact⟨zaS _ _ _,zdv hs ar k⟩
structure zAC (names:List Str)(ps:List Pd)(size:Nat):Prop where
 nm:zo2 names
 pd:zu0 ps
 ar:∀p∈ps,0≤p.arity∧p.arity≤3
 s1:1≤size
 s4:size≤4
 ln:names.length≤10000000
 lp:ps.length≤300
theorem zfi (names:List Str)(ps:List Pd)(size n:Nat):(zdg names ps size n).consts.map (·.name)=names:=by
 show(List.zipWith zaF.mk names (zaR size names.length _)).map (·.name)=names
 have:=zeX (vars:=names) (l:=zaR size names.length (n / 2^zaQ size ps)) (zaS _ _ _)
 exact this
theorem zug {names:List Str}{ps:List Pd}{size n:Nat}{c:zaF}(hs:0<size)(h:c∈(zdg names ps size n).consts):0≤c.value∧c.value<(size:Int):=by
 have h2:c∈zhn names (zaR size names.length (n / 2^zaQ size ps)):=h
 exact zdv hs _ _ _ (zfP h2)
theorem zrK {names:List Str}{ps:List Pd}{size n:Nat}(h:zAC names ps size):zsd (zdg names ps size n):=by
 have hc:(zdg names ps size n).consts.length=names.length:=by
  have:=congrArg List.length (zfi names ps size n);simpa using this
 have hr:(zdg names ps size n).rels.length=ps.length:=ziw _ _ _
 refine⟨fun i j hi hj hij=>?_,fun i j hi hj hij=>?_,fun r hr i j hi hj hij=>?_,by show(1:Int)≤(size:Int);have:=h.s1;omega,by show(size:Int)≤6;have:=h.s4;omega,by rw[hc];exact h.ln,by rw[hr];exact h.lp⟩
 ·have e1:∀k (hk:k<(zdg names ps size n).consts.length),(zdg names ps size n).consts[k].name=names[k]'(by rw[←hc];exact hk):=fun k hk=>by
   have:=List.getElem_of_eq (zfi names ps size n) (i:=k) (by rw[List.length_map];exact hk)
   rw[←this,List.getElem_map]
  rw[e1 i hi,e1 j hj]
  exact(List.pairwise_iff_getElem.1 h.nm) i j _ _ hij
 ·have e1:∀k (hk:k<(zdg names ps size n).rels.length),(⟨(zdg names ps size n).rels[k].name,(zdg names ps size n).rels[k].arity⟩:Pd)=ps[k]'(by rw[←hr];exact hk):=fun k hk=>by
   have:=List.getElem_of_eq (zky size ps (zpu (zaQ size ps) n)) (i:=k) (by rw[List.length_map];exact hk)
   rw[←this,List.getElem_map];rfl
  have h2:=(List.pairwise_iff_getElem.1 h.pd) i j (by rw[←hr];exact hi) (by rw[←hr];exact hj) hij
  rw[←e1 i hi,←e1 j hj]at h2
  exact h2
 ·obtain⟨p,_,b,rfl⟩:=zf6 hr
  exact(List.pairwise_iff_getElem.1 (zu9 (by have:=h.s1;omega))) i j hi hj hij
theorem zp1 {names:List Str}{ps:List Pd}{size n:Nat}{w:Str}(h:w∈names):(zct (zdg names ps size n) w).isSome=true:=by
 unfold zct
 rw[List.find?_isSome]
 rw[←zfi names ps size n]at h
 obtain⟨c,hc,e⟩:=List.mem_map.1 h
 exact⟨c,hc,by simp[e]⟩
end Go.Abs
namespace Go.Abs
open Go
def zed:List Nat→List Int→List Int×Bool
 |t::ts,d::ds=>if(zed ts ds).2=true then(if d+1<(t:Int)then((d+1)::(zed ts ds).1,false)else(0::(zed ts ds).1,true))else(d::(zed ts ds).1,false)
 |[],_=>([],true)
 |_::_,[]=>([],true)
theorem zlL:∀(ts:List Nat) (t:Nat) (ds:List Int) (d:Int),ts.length=ds.length→zed (ts++[t]) (ds++[d])=if d+1<(t:Int)then(ds++[d+1],false)else((zed ts ds).1++[0],(zed ts ds).2)
 |[],t,[],d,_=>by
  rw[List.nil_append,List.nil_append,zed]
  by_cases h:d+1<(t:Int)<;>simp[zed,h]
 |[],_,_::_,_,h=>by simp at h
 |_::_,_,[],_,h=>by simp at h
 |t0::ts,t,d0::ds,d,h=>by
  rw[List.cons_append,List.cons_append,zed,zlL ts t ds d (by simpa using h)]
  by_cases h1:d+1<(t:Int)
  ·simp[h1]
  ·simp only[h1,if_false]
   rw[zed]
   cases(zed ts ds).2<;>simp
   split<;>simp
theorem zhp:∀(ts1:List Nat) (ds1:List Int) (ts2:List Nat) (ds2:List Int),ts1.length=ds1.length→zed (ts1++ts2) (ds1++ds2)=if(zed ts2 ds2).2=true then((zed ts1 ds1).1++(zed ts2 ds2).1,(zed ts1 ds1).2)else(ds1++(zed ts2 ds2).1,false)
 |[],[],ts2,ds2,_=>by
  rw[List.nil_append,List.nil_append]
  have e:zed [] []=([],true):=rfl
  rw[e]
  simp only[List.nil_append]
  split
  ·rename_i h;exact Prod.ext rfl h
  ·rename_i h;exact Prod.ext rfl (by simpa using h)
 |[],_::_,_,_,h=>by simp at h
 |_::_,[],_,_,h=>by simp at h
 |t0::ts,d0::ds,ts2,ds2,h=>by
  rw[List.cons_append,List.cons_append,zed,zhp ts ds ts2 ds2 (by simpa using h)]
  cases h2:(zed ts2 ds2).2
  ·simp
  ·simp only[if_true]
   rw[zed]
   cases(zed ts ds).2<;>simp
   split<;>simp
theorem zeW (s:Nat):∀k,zaR s k 0=List.replicate k 0
 |0=>rfl
 |k+1=>by rw[zaR,Nat.zero_div,zeW s k,Nat.zero_mod,List.replicate_succ'];rfl
theorem zdb {s:Nat}(hs:0<s):∀k i,zaR s k (i % s^k)=zaR s k i
 |0,_=>rfl
 |k+1,i=>by
  rw[zaR,zaR]
  have h1:i % s^(k+1) / s=(i / s) % s^k:=by
   rw[Nat.pow_succ,Nat.mul_comm,Nat.mod_mul,Nat.add_mul_div_left _ _ hs,Nat.div_eq_of_lt (Nat.mod_lt _ hs),Nat.zero_add]
  have h2:i % s^(k+1) % s=i % s:=by
   rw[Nat.pow_succ,Nat.mul_comm,Nat.mod_mul,Nat.add_mul_mod_self_left,Nat.mod_mod]
  rw[h1,h2,zdb hs k]
theorem zdY {s:Nat}(hs:0<s):∀(k i:Nat),i<s^k→zed (List.replicate k s) (zaR s k i)=(zaR s k ((i+1) % s^k),decide (i+1=s^k))
 |0,i,h=>by
  have:i=0:=by simpa using h
  subst this;rfl
 |k+1,i,h=>by
  rw[List.replicate_succ',zaR,zlL _ _ _ _ (by rw[List.length_replicate,zaS])]
  have hd:=Nat.div_add_mod i s
  have hq:i / s<s^k:=Nat.div_lt_of_lt_mul (by rw[Nat.pow_succ,Nat.mul_comm]at h;exact h)
  have hm:=Nat.mod_lt i hs
  by_cases h1:i % s+1<s
  ·rw[if_pos (by omega)]
   have e1:(i+1) / s=i / s:=by
    rw[←hd,Nat.add_assoc,Nat.mul_add_div hs,Nat.div_eq_of_lt h1,Nat.add_zero,hd]
   have e2:(i+1) % s=i % s+1:=by
    rw[←hd,Nat.add_assoc,Nat.mul_add_mod,Nat.mod_eq_of_lt h1,hd]
   have hne:i+1≠s^(k+1):=fun e=>by
    rw[e,Nat.pow_succ,Nat.mul_mod_left]at e2
    omega
   rw[Nat.mod_eq_of_lt (Nat.lt_of_le_of_ne h hne),zaR,e1,e2,decide_eq_false hne]
   rfl
  ·rw[if_neg (by omega),zdY hs k (i / s) hq]
   have e0:i+1=s*(i / s+1):=by rw[Nat.mul_add];omega
   have e1:(i+1) % s^(k+1)=s*((i / s+1) % s^k):=by
    rw[e0,Nat.pow_succ,Nat.mul_comm (s^k) s,Nat.mul_mod_mul_left]
   have e2:(i+1=s^(k+1))↔(i / s+1=s^k):=by
    rw[e0,Nat.pow_succ,Nat.mul_comm (s^k) s]
    exact Nat.mul_right_inj (by omega)
   rw[e1,zaR,Nat.mul_div_cancel_left _ hs,Nat.mul_mod_right]
   simp only[e2]
   rfl
def za4 (size c cells n:Nat):List Int:=zaR size c (n / 2^cells)++zaR 2 cells n
theorem zhZ (size c cells n:Nat):(za4 size c cells n).length=c+cells:=by unfold za4;rw[List.length_append,zaS,zaS]
theorem zlj (size c cells:Nat):za4 size c cells 0=List.replicate (c+cells) 0:=by
 unfold za4
 rw[Nat.zero_div,zeW,zeW,List.replicate_append_replicate]
theorem znn {size c cells n:Nat}(hs:0<size)(h:n+1<size^c*2^cells):(zed (List.replicate c size++List.replicate cells 2) (za4 size c cells n)).1=za4 size c cells (n+1):=by
 unfold za4
 obtain⟨m,hm⟩:∃m,2^cells=m:=⟨_,rfl⟩
 have hm0:0<m:=by rw[←hm];exact Nat.pow_pos (by omega)
 have hr:=Nat.mod_lt n hm0
 have hd:=Nat.div_add_mod n m
 rw[zhp _ _ _ _ (by rw[List.length_replicate,zaS]),←zdb (by omega) cells n,zdY (by omega) cells _ (by rw[hm];exact hr),hm]
 rw[hm]at h
 have hq:n / m<size^c:=Nat.div_lt_of_lt_mul (by rw[Nat.mul_comm];omega)
 by_cases h1:n % m+1=m
 ·simp only[h1,decide_true,if_true]
  rw[zdY hs c _ hq,Nat.mod_self]
  have e0:n+1=m*(n / m+1):=by rw[Nat.mul_add];omega
  have hq2:n / m+1<size^c:=by
   rw[e0,Nat.mul_comm]at h
   exact Nat.lt_of_mul_lt_mul_right h
  rw[Nat.mod_eq_of_lt hq2,e0,Nat.mul_div_cancel_left _ hm0,←zdb (by omega) cells (m*_),hm,Nat.mul_mod_right]
 ·simp only[h1,decide_false,Bool.false_eq_true,if_false]
  have h2:n % m+1<m:=by omega
  have e1:(n+1) / m=n / m:=by
   rw[←hd,Nat.add_assoc,Nat.mul_add_div hm0,Nat.div_eq_of_lt h2,Nat.add_zero,hd]
  have e2:(n+1) % m=n % m+1:=by
   rw[←hd,Nat.add_assoc,Nat.mul_add_mod,Nat.mod_eq_of_lt h2,hd]
  rw[Nat.mod_eq_of_lt h2,e1,←zdb (by omega) cells (n+1),hm,e2]
def okF (fs:List zaf)(m:zal):Bool:=fs.all fun f=>zbY m f []
def zfe (fs:List zaf)(size:Nat):Option Nat:=zeu size (zbu fs).length (zeq fs)
def zmJ (fs:List zaf)(size n:Nat):zal:=zdg (zbu fs) (zeq fs) size n
def zbS (fs:List zaf)(size n:Nat):List zal:=((List.range n).map (zmJ fs size)).filter (okF fs)
def zbb (fs:List zaf)(size:Nat):Option (List zal):=(zfe fs size).map (zbS fs size)
theorem zgD (fs:List zaf)(size n:Nat):zbS fs size (n+1)=zbS fs size n++(if okF fs (zmJ fs size n)=true then[zmJ fs size n]else[]):=by
 unfold zbS
 rw[List.range_succ,List.map_append,List.filter_append]
 congr 1
 simp only[List.map_cons,List.map_nil,List.filter_cons,List.filter_nil]
theorem zf3 (fs:List zaf)(size:Nat):∀n,(zbS fs size n).length≤n:=fun n=>by
 unfold zbS
 refine Nat.le_trans (List.length_filter_le _ _) ?_
 simp
theorem zl0 (fs:List zaf)(size:Nat){n t:Nat}(h:n≤t):∃r,zbS fs size t=zbS fs size n++r:=by
 obtain⟨k,rfl⟩:=Nat.exists_eq_add_of_le h
 unfold zbS
 rw[List.range_add,List.map_append,List.filter_append]
 exact⟨_,rfl⟩
def zsc (fs:List zaf)(size most:Nat):Option (List zal):=(zbb fs size).map (List.take most)
def zdp:zal:=⟨0,[],[]⟩
def znV:List zaf→Nat→zcD
 |[],_=>⟨0,0⟩
 |f::fs,i=>if(zaA false f).code≠0 then⟨(zaA false f).code,i⟩else if 5<zbf f then⟨17,i⟩else znV fs (i+1)
def zaM (fs:List zaf)(size:Int):zcD:=if 41<fs.length then⟨2, -1⟩else if(znV fs 0).code≠0 then znV fs 0 else if size<1∨4<size then⟨3, -2⟩else⟨0,0⟩
theorem zkX:∀{fs:List zaf} {i:Nat},(znV fs i).code=0→znV fs i=⟨0,0⟩∧∀f∈fs,(zaA false f).code=0∧zbf f≤5
 |[],i,_=>⟨rfl,by simp⟩
 |f::fs,i,h=>by
  rw[znV]at h ⊢
  by_cases h1:(zaA false f).code=0
  ·rw[if_neg (by simp[h1])]at h ⊢
   by_cases h2:5<zbf f
   ·rw[if_pos h2]at h;simp at h
   ·rw[if_neg h2]at h ⊢
    obtain⟨h3,h4⟩:=zkX h
    refine⟨h3,fun g hg=>?_⟩
    rcases List.mem_cons.1 hg with rfl|hg
    ·exact⟨h1,by omega⟩
    ·exact h4 g hg
  ·rw[if_pos h1]at h;exact absurd h h1
theorem zdV {fs:List zaf}{size:Int}(h:(zaM fs size).code=0):zaM fs size=⟨0,0⟩∧fs.length≤41∧(∀f∈fs,(zaA false f).code=0∧zbf f≤5)∧1≤size∧size≤4:=by
 unfold zaM at h ⊢
 by_cases h1:41<fs.length
 ·rw[if_pos h1]at h;exact absurd h (by decide)
 rw[if_neg h1]at h ⊢
 by_cases h2:(znV fs 0).code=0
 rotate_left
 ·rw[if_pos h2]at h;exact absurd h h2
 rw[if_neg (by simp[h2])]at h ⊢
 by_cases h3:size<1∨4<size
 ·rw[if_pos h3]at h;exact absurd h (by decide)
 rw[if_neg h3]
 exact⟨rfl,by omega,(zkX h2).2,by omega,by omega⟩
def zdT (fs:List zaf)(size:Int):Int×zcD:=
 if(zaM fs size).code≠0 then(0,zaM fs size)else match zbb fs size.toNat with
 |none=>(0,⟨17, -2⟩)
 |some l=>((l.length:Int),⟨0,0⟩)
def zfS (fs:List zaf):Nat→Nat→zal×Bool×zcD
 |_,0=>(zdp,false,⟨0,0⟩)
 |k,left+1=>match zbb fs k with
  |none=>(zdp,false,⟨17, -2⟩)
  |some []=>zfS fs (k+1) left
  |some (m::_)=>(m,true,⟨0,0⟩)
def zh7 (fs:List zaf)(size:Int):zal×Bool×zcD:=
 if(zaM fs size).code≠0 then(zdp,false,zaM fs size)else zfS fs 1 size.toNat
end Go.Abs
namespace Go.Abs
open Go
theorem zD0 {l:List zaf}{w:Str}:w∈zbu l↔∃f∈l,w∈cst f []:=by
 unfold zbu
 constructor
 ·intro h
  obtain⟨x,hx,rfl⟩:=List.mem_map.1 h
  have h2:=(zd2 _).mem_iff.1 ((zii _ _).1 hx)
  obtain⟨y,hy,rfl⟩:=List.mem_map.1 h2
  obtain⟨f,hf,h3⟩:=List.mem_flatMap.1 hy
  exact⟨f,hf,(zd0 f _).1 h3⟩
 ·rintro⟨f,hf,hw⟩
  refine List.mem_map.2 ⟨w.l,(zii _ _).2 ((zd2 _).mem_iff.2 (List.mem_map.2 ⟨w,List.mem_flatMap.2 ⟨f,hf,(zd0 f w).2 hw⟩,rfl⟩)),rfl⟩
theorem zjo (l:List zaf):zo2 (zbu l):=zo3 _
theorem zos:∀{l:List zaf},(∀f∈l,f.fit=true∧f.size≤200)→(l.flatMap zbH).length≤l.length*200000
 |[],_=>by simp
 |f::l,h=>by
  rw[List.flatMap_cons,List.length_append,List.length_cons]
  have h1:=zos fun g hg=>h g (List.mem_cons_of_mem _ hg)
  have h2:=h f (by simp)
  have h3:=zgw f [] h2.1
  have h4:=zgg f
  omega
theorem zwu {l:List zaf}(h:∀f∈l,(zaA false f).code=0):∀f∈l,f.fit=true∧f.size≤200:=fun f hf=>⟨zbN (h f hf),zaT (h f hf)⟩
theorem zgE {l:List zaf}(h:∀f∈l,(zaA false f).code=0)(hl:l.length≤41):(zbu l).length≤10000000:=by
 have h1:=zos (zwu h)
 unfold zbu
 rw[List.length_map]
 refine Nat.le_trans (zfL _) ?_
 rw[zga,List.length_map]
 omega
mutual
theorem zoN:∀(f:zaf),vok f→∀p∈pds f,0≤p.arity∧p.arity≤3
 | .mk k nm ws s,h,p,hp=>by
  rw[vok]at h
  rw[pds]at hp
  rcases List.mem_append.1 hp with hp|hp
  ·split at hp
   ·rename_i hk
    have:=h.2.2.1 hk
    rw[List.mem_singleton.1 hp]
    exact⟨by simp only;omega,by simp only;omega⟩
   ·simp at hp
  ·exact zsl s h.2.2.2.2.2.2 p hp
theorem zsl:∀(fs:List zaf),zkO fs→∀p∈zcO fs,0≤p.arity∧p.arity≤3
 |[],_,p,hp=>by simp[zcO]at hp
 |f::fs,h,p,hp=>by
  rw[zkO]at h
  rw[zcO]at hp
  rcases List.mem_append.1 hp with hp|hp
  ·exact zoN f h.1 p hp
  ·exact zsl fs h.2 p hp
end
theorem zAD {fs:List zaf}(hv:∀f∈fs,(zaA false f).code=0):∀p∈zeq fs,0≤p.arity∧p.arity≤3:=fun p hp=>by
 obtain⟨f,hf,h⟩:=zkG.1 hp
 exact zoN f (zdR (hv f hf)) p h
theorem zAE {fs:List zaf}{size n:Nat}(hv:∀f∈fs,(zaA false f).code=0)(hl:fs.length≤41)(h1:1≤size)(h4:size≤4)(hn:zfe fs size=some n):zAC (zbu fs) (zeq fs) size:=by
 obtain⟨_,_,h3⟩:=zc3 h1 hn
 have h5:=zkZ h1 (zeq fs)
 exact⟨zjo fs,zoY fs,zAD hv,h1,h4,zgE hv hl,by omega⟩
end Go.Abs
namespace Go.Abs
open Go
mutual
theorem zuJ:∀(f:zaf),shp false f→∀p∈pds f,zax p.name=true
 | .mk k nm ws s,h,p,hp=>by
  rw[shp]at h
  rw[pds]at hp
  rcases List.mem_append.1 hp with hp|hp
  ·split at hp
   ·rename_i hk
    rw[List.mem_singleton.1 hp]
    subst hk
    exact h.1.2.2.1 rfl (by unfold isQ;show¬((2:Int)=8∨(2:Int)=9);omega)
   ·simp at hp
  ·exact zl8 s h.2 p hp
theorem zl8:∀(fs:List zaf),zeO false fs→∀p∈zcO fs,zax p.name=true
 |[],_,p,hp=>by simp[zcO]at hp
 |f::fs,h,p,hp=>by
  rw[zeO]at h
  rw[zcO]at hp
  rcases List.mem_append.1 hp with hp|hp
  ·exact zuJ f h.1 p hp
  ·exact zl8 fs h.2 p hp
end
mutual
theorem zuo {m:zal}:∀(f:zaf),(∀p∈pds f,(zeH m p.name p.arity).isSome=true)→zgZ m f=true
 | .mk k nm ws s,h=>by
  rw[zgZ]
  have h2:=zlJ s fun p hp=>h p (by rw[pds];exact List.mem_append_right _ hp)
  by_cases hk:k=2
  ·have h3:=h ⟨nm,ws.length⟩ (by rw[pds,if_pos hk];simp)
   simp[h2,h3]
  ·simp[h2,hk]
theorem zlJ {m:zal}:∀(fs:List zaf),(∀p∈zcO fs,(zeH m p.name p.arity).isSome=true)→ze8 m fs=true
 |[],_=>by rw[ze8]
 |f::fs,h=>by
  rw[ze8,zuo f fun p hp=>h p (by rw[zcO];exact List.mem_append_left _ hp),zlJ fs fun p hp=>h p (by rw[zcO];exact List.mem_append_right _ hp)]
  rfl
end
end Go.Abs
