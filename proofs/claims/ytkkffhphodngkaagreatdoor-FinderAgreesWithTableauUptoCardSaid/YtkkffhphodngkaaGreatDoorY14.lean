/- several texts of this proof in one; no conditions -/
import Derived.Test.YtkkffhphodngkaaGreatDoorTB
import Derived.Test.YtkkffhphodngkaaGreatDoorY13
import Derived.Test.YtkkffhphodngkaaGreatDoorST
import Derived.Test.YtkkffhphodngkaaGreatDoorAE
import Derived.Test.YtkkffhphodngkaaGreatDoorVP
import Derived.Test.YtkkffhphodngkaaGreatDoorY17
set_option linter.unusedSimpArgs false
namespace Go.Abs
open Go
structure Pd where
 name:Str
 arity:Int
 deriving DecidableEq
instance:Inhabited Pd:=⟨⟨⟨[]⟩,0⟩⟩
instance:Enc Pd:=⟨fun c=> .agg [.s c.name.l,.i .i64 c.arity],fun x=>match x with| .agg [.s a,.i _ n]=>⟨⟨a⟩,n⟩|_=>default,fun c=>by cases c;rfl⟩
@[go_sem] theorem zIv {c:Pd}:enc c= .agg [.s c.name.l,.i .i64 c.arity]:=rfl
instance:Kc Pd 2:=⟨fun _=>rfl⟩
def ltP (a b:Pd):Prop:=a.name.l<b.name.l∨(a.name=b.name∧a.arity<b.arity)
instance (a b:Pd):Decidable (ltP a b):=by unfold ltP;exact inferInstance
theorem zfw {a:Pd}:¬ltP a a:=fun h=>by
 rcases h with h|⟨_,h⟩
 ·exact zh9 h
 ·omega
theorem zgo {a b c:Pd}(h:ltP a b)(h2:ltP b c):ltP a c:=by
 rcases h with h|⟨e,h⟩<;>rcases h2 with h2|⟨e2,h2⟩
 ·exact .inl (zwo h h2)
 ·exact .inl (e2▸h)
 ·exact .inl (e▸h2)
 ·exact .inr ⟨e.trans e2,by omega⟩
theorem zoY {a b:Pd}(h:¬ltP a b)(h2:a≠b):ltP b a:=by
 by_cases hn:a.name=b.name
 ·refine .inr ⟨hn.symm,?_⟩
  have h3:¬a.arity<b.arity:=fun h3=>h (.inr ⟨hn,h3⟩)
  have h4:a.arity≠b.arity:=fun e=>h2 (by cases a;cases b;simp_all)
  omega
 ·exact .inl (zCe (fun h3=>h (.inl h3)) (zD8 hn))
def zx4 (l:List Pd):Prop:=l.Pairwise ltP
theorem zqJ:∀{a b:List Pd},zx4 a→zx4 b→(∀x,x∈a↔x∈b)→a=b
 |[],[],_,_,_=>rfl
 |[],y::b,_,_,h=>absurd ((h y).2 (by simp)) (by simp)
 |x::a,[],_,_,h=>absurd ((h x).1 (by simp)) (by simp)
 |x::a,y::b,ha,hb,h=>by
  have ha':=List.pairwise_cons.1 ha
  have hb':=List.pairwise_cons.1 hb
  have e:x=y:=by
   refine Classical.byContradiction fun hne=>?_
   have h1:x∈b:=by
    rcases List.mem_cons.1 ((h x).1 (by simp))with h1|h1
    ·exact absurd h1 hne
    ·exact h1
   have h2:y∈a:=by
    rcases List.mem_cons.1 ((h y).2 (by simp))with h2|h2
    ·exact absurd h2.symm hne
    ·exact h2
   exact zfw (zgo (ha'.1 y h2) (hb'.1 x h1))
  subst e
  rw[zqJ ha'.2 hb'.2 fun z=>?_]
  have hz:=h z
  simp only[List.mem_cons]at hz
  constructor
  ·intro hza
   rcases hz.1 (.inr hza)with e|h1
   ·rw[e]at hza;exact absurd (ha'.1 x hza) zfw
   ·exact h1
  ·intro hzb
   rcases hz.2 (.inr hzb)with e|h1
   ·rw[e]at hzb;exact absurd (hb'.1 x hzb) zfw
   ·exact h1
mutual
def pds:zab→List Pd
 | .mk k nm ws s=>(if k=2 then[⟨nm,(ws.length:Int)⟩]else[])++zdJ s
def zdJ:List zab→List Pd
 |[]=>[]
 |f::fs=>pds f++zdJ fs
end
theorem zgu {x:Pd}:∀{l:List zab},x∈zdJ l↔∃f∈l,x∈pds f
 |[]=>by simp[zdJ]
 |f::fs=>by rw[zdJ,List.mem_append,zgu (l:=fs)];simp
def zm4:List Pd→Pd→List Pd
 |[],p=>[p]
 |x::l,p=>if ltP x p then x::zm4 l p else if x=p then x::l else p::x::l
theorem zk6 {x p:Pd}:∀{l:List Pd},x∈zm4 l p↔x∈l∨x=p
 |[]=>by simp[zm4]
 |y::l=>by
  rw[zm4]
  split
  ·rw[List.mem_cons,zk6 (l:=l),List.mem_cons,or_assoc]
  ·split
   ·rename_i e;subst e
    constructor
    ·exact .inl
    ·rintro(h|rfl)
     ·exact h
     ·simp
   ·simp only[List.mem_cons]
    constructor
    ·rintro(h|h|h)
     ·exact .inr h
     ·exact .inl (.inl h)
     ·exact .inl (.inr h)
    ·rintro((h|h)|h)
     ·exact .inr (.inl h)
     ·exact .inr (.inr h)
     ·exact .inl h
theorem zqg {p:Pd}:∀{l:List Pd},zx4 l→zx4 (zm4 l p)
 |[],_=>by simp[zm4,zx4]
 |y::l,h=>by
  have h':=List.pairwise_cons.1 h
  rw[zm4]
  split
  ·rename_i hy
   refine List.pairwise_cons.2 ⟨fun z hz=>?_,zqg h'.2⟩
   rcases zk6.1 hz with hz|rfl
   ·exact h'.1 z hz
   ·exact hy
  ·split
   ·exact h
   ·rename_i h1 h2
    have h3:=zoY h1 h2
    refine List.pairwise_cons.2 ⟨fun z hz=>?_,h⟩
    rcases List.mem_cons.1 hz with rfl|hz
    ·exact h3
    ·exact zgo h3 (h'.1 z hz)
def zBV (l:List Pd)(ps:List Pd):List Pd:=ps.foldl zm4 l
def zhK (fs:List zab):List Pd:=zBV [] (zdJ fs)
theorem zqF:∀(ps l:List Pd),zx4 l→zx4 (zBV l ps)
 |[],_,h=>h
 |p::ps,l,h=>zqF ps (zm4 l p) (zqg h)
theorem zqE {x:Pd}:∀(ps l:List Pd),x∈zBV l ps↔x∈l∨x∈ps
 |[],l=>by simp[zBV]
 |p::ps,l=>by
  show x∈zBV (zm4 l p) ps↔_
  rw[zqE ps (zm4 l p),zk6,List.mem_cons,or_assoc]
theorem zqG (fs:List zab):zx4 (zhK fs):=zqF _ _ List.Pairwise.nil
theorem zhT {fs:List zab}{x:Pd}:x∈zhK fs↔∃f∈fs,x∈pds f:=by
 unfold zhK
 rw[zqE,zgu];simp
def zdQ (l:List Pd)(p:Pd):List Pd:=if p∈l then l else l++[p]
def zdP (l:List Pd)(ps:List Pd):List Pd:=ps.foldl zdQ l
theorem zrb {l:List Pd}{p x:Pd}:x∈zdQ l p↔x∈l∨x=p:=by
 unfold zdQ
 split
 ·rename_i h
  constructor
  ·exact .inl
  ·rintro(h2|rfl)
   ·exact h2
   ·exact h
 ·simp
theorem zl1 {l:List Pd}{p:Pd}(h:l.Pairwise (· ≠·)):(zdQ l p).Pairwise (· ≠·):=by
 unfold zdQ
 split
 ·exact h
 ·rename_i hp
  rw[List.pairwise_append]
  refine⟨h,by simp,fun a ha b hb e=>?_⟩
  rw[List.mem_singleton.1 hb]at e
  exact hp (e▸ha)
theorem zjb {x:Pd}:∀(ps l:List Pd),x∈zdP l ps↔x∈l∨x∈ps
 |[],l=>by simp[zdP]
 |p::ps,l=>by
  show x∈zdP (zdQ l p) ps↔_
  rw[zjb ps,zrb,List.mem_cons,or_assoc]
theorem zjc:∀(ps l:List Pd),l.Pairwise (· ≠·)→(zdP l ps).Pairwise (· ≠·)
 |[],_,h=>h
 |_::ps,_,h=>zjc ps _ (zl1 h)
theorem zgC:∀(ps l:List Pd),(zdP l ps).length≤l.length+ps.length
 |[],l=>by simp[zdP]
 |p::ps,l=>by
  show(zdP (zdQ l p) ps).length≤_
  have h:=zgC ps (zdQ l p)
  have h2:(zdQ l p).length≤l.length+1:=by unfold zdQ;split<;>simp
  simp only[List.length_cons];omega
theorem zst {fs:List zab}{U S:List Pd}(hU:∀x,x∈U↔∃f∈fs,x∈pds f)(hn:U.Pairwise (· ≠·))(hp:S.Perm U)(hs:S.Pairwise fun a b=>¬ltP b a):S=zhK fs:=by
 refine zqJ ?_ (zqG fs) fun x=>?_
 ·have hn2:S.Pairwise (· ≠·):=(hp.pairwise_iff (fun{a b} h=>Ne.symm h)).2 hn
  refine List.Pairwise.imp₂ (fun a b h1 h2=>?_) hs hn2
  exact Classical.byContradiction fun h3=>h1 (zoY h3 h2)
 ·rw[hp.mem_iff,hU,zhT]
end Go.Abs
namespace Go.Abs
open Go
theorem zpQ:∀(a x y:List Int),zer (a++x) (a++y)=zer x y
 |[],_,_=>rfl
 |h::a,x,y=>by
  rw[List.cons_append,List.cons_append,zer,if_neg (by rw[ze1.2 rfl];simp),zpQ a x y]
theorem zpP:∀{a b:List Int} (x y:List Int),a.length=b.length→zer a b<0→zer (a++x) (b++y)<0
 |[],[],_,_,_,h=>by simp[zer]at h
 |[],_::_,_,_,hl,_=>by simp at hl
 |_::_,[],_,_,hl,_=>by simp at hl
 |p::a,q::b,x,y,hl,h=>by
  rw[List.cons_append,List.cons_append,zer]
  rw[zer]at h
  split
  ·rename_i hc;rw[if_pos hc]at h;exact h
  ·rename_i hc;rw[if_neg hc]at h;exact zpP x y (by simpa using hl) h
theorem ztN {s:Nat}(hs:0<s):∀(k i j:Nat),i<j→j<s^k→zer (zbO s k i) (zbO s k j)<0
 |0,i,j,h,hj=>by simp at hj;omega
 |k+1,i,j,h,hj=>by
  rw[zbO,zbO]
  by_cases hq:i / s=j / s
  ·rw[hq,zpQ,zer,if_pos]
   ·rw[zpO]
    have h1:=Nat.div_add_mod i s
    have h2:=Nat.div_add_mod j s
    rw[hq]at h1
    omega
   ·intro e
    rw[ze1]at e
    have h1:=Nat.div_add_mod i s
    have h2:=Nat.div_add_mod j s
    rw[hq]at h1
    omega
  ·have h3:i / s<j / s:=Nat.lt_of_le_of_ne (Nat.div_le_div_right (Nat.le_of_lt h)) hq
   refine zpP _ _ (by rw[zec,zec]) (ztN hs k _ _ h3 ?_)
   rw[Nat.pow_succ]at hj
   exact Nat.div_lt_of_lt_mul (by rw[Nat.mul_comm];exact hj)
def zhH:List Nat→Nat
 |[]=>1
 |t::ts=>t*zhH ts
theorem znr:∀(a b:List Nat),zhH (a++b)=zhH a*zhH b
 |[],b=>by simp[zhH]
 |x::a,b=>by rw[List.cons_append,zhH,zhH,znr a b,Nat.mul_assoc]
theorem ziU (s:Nat):∀c,zhH (List.replicate c s)=s^c
 |0=>rfl
 |c+1=>by rw[List.replicate_succ,zhH,ziU s c,Nat.pow_succ,Nat.mul_comm]
def ztk:Nat→List Nat→Option Nat
 |n,[]=>some n
 |n,t::ts=>if 8192<n*t then none else ztk (n*t) ts
theorem zmc:∀{ts:List Nat} {n r:Nat},(∀t∈ts,1≤t)→n≤8192→ztk n ts=some r→r=n*zhH ts∧r≤8192
 |[],n,r,_,hn,h=>by
  simp only[ztk,Option.some.injEq]at h
  subst h
  exact⟨by simp[zhH],hn⟩
 |t::ts,n,r,h1,hn,h=>by
  rw[ztk]at h
  split at h
  ·cases h
  ·rename_i h2
   obtain⟨h3,h4⟩:=zmc (fun x hx=>h1 x (by simp[hx])) (by omega) h
   exact⟨by rw[h3,zhH,Nat.mul_assoc],h4⟩
def zqv (size:Nat)(p:Pd):Nat:=size^p.arity.toNat
def za4 (size:Nat):List Pd→Nat
 |[]=>0
 |p::ps=>zqv size p+za4 size ps
def zlH (size:Nat):List Pd→List Nat
 |[]=>[]
 |p::ps=>List.replicate (zqv size p) 2++zlH size ps
def zvq (size c:Nat)(ps:List Pd):List Nat:=List.replicate c size++zlH size ps
theorem zi7 (size:Nat):∀ps:List Pd,zlH size ps=List.replicate (za4 size ps) 2
 |[]=>rfl
 |p::ps=>by rw[zlH,za4,zi7 size ps,List.replicate_append_replicate]
theorem zxL {size:Nat}(h:1≤size)(p:Pd):1≤zqv size p:=Nat.pow_pos (by omega)
theorem zme {size:Nat}(h:1≤size):∀ps:List Pd,ps.length≤za4 size ps
 |[]=>Nat.le_refl _
 |p::ps=>by
  have h1:=zme h ps
  have h2:=zxL h p
  rw[za4,List.length_cons];omega
theorem zya {size c:Nat}{ps:List Pd}(h:1≤size):∀t∈zvq size c ps,1≤t:=fun t ht=>by
 unfold zvq at ht
 rw[zi7]at ht
 rcases List.mem_append.1 ht with ht|ht
 ·rw[(List.mem_replicate.1 ht).2];exact h
 ·rw[(List.mem_replicate.1 ht).2];omega
def zmd (size c:Nat)(ps:List Pd):Option Nat:=ztk 1 (zvq size c ps)
theorem zfq {size c:Nat}{ps:List Pd}{r:Nat}(h:1≤size)(hr:zmd size c ps=some r):r=size^c*2^za4 size ps∧r≤8192∧za4 size ps≤13:=by
 obtain⟨h1,h2⟩:=zmc (zya h) (by omega) hr
 unfold zvq at h1
 rw[zi7,znr,ziU,ziU,Nat.one_mul]at h1
 refine⟨h1,h2,?_⟩
 refine Classical.byContradiction fun hc=>?_
 have h3:2^14≤2^za4 size ps:=Nat.pow_le_pow_right (by omega) (by omega)
 have h4:1≤size^c:=Nat.pow_pos (by omega)
 have h5:1*2^14≤size^c*2^za4 size ps:=Nat.mul_le_mul h4 h3
 have h6:(2:Nat)^14=16384:=by decide
 omega
def ztf (cells n:Nat):List Bool:=(zbO 2 cells n).map fun d=>decide (d=1)
def zsz (size ar:Nat)(bits:List Bool):List (List Int):=((List.range (size^ar)).filter fun k=>bits.getD k false).map (zbO size ar)
def zfF (size:Nat):List Pd→List Bool→List zeT
 |[],_=>[]
 |p::ps,bits=>⟨p.name,p.arity,zsz size p.arity.toNat bits⟩::zfF size ps (bits.drop (zqv size p))
def zc5 (names:List Str)(ps:List Pd)(size n:Nat):zaB:=⟨size,List.zipWith zaH.mk names (zbO size names.length (n / 2^za4 size ps)),zfF size ps (ztf (za4 size ps) n)⟩
theorem zlo (size:Nat):∀(ps:List Pd) (bits:List Bool),(zfF size ps bits).map (fun r=>(⟨r.name,r.arity⟩:Pd))=ps
 |[],_=>rfl
 |p::ps,bits=>by rw[zfF,List.map_cons,zlo size ps]
theorem zny (size:Nat)(ps:List Pd)(bits:List Bool):(zfF size ps bits).length=ps.length:=by
 have h:=congrArg List.length (zlo size ps bits)
 simpa using h
theorem znz {size:Nat}:∀{ps:List Pd} {bits:List Bool} {r:zeT},r∈zfF size ps bits→∃p∈ps,∃b,r=⟨p.name,p.arity,zsz size p.arity.toNat b⟩
 |[],_,r,h=>by simp[zfF]at h
 |p::ps,bits,r,h=>by
  rw[zfF]at h
  rcases List.mem_cons.1 h with rfl|h
  ·exact⟨p,by simp,_,rfl⟩
  ·obtain⟨q,hq,b,e⟩:=znz h
   exact⟨q,by simp[hq],b,e⟩
theorem zyb {size ar:Nat}{bits:List Bool}(hs:0<size):(zsz size ar bits).Pairwise fun a b=>zer a b<0:=by
 unfold zsz
 rw[List.pairwise_map]
 refine List.Pairwise.filter _ ?_
 refine List.Pairwise.imp_of_mem (fun{a b} ha hb h=>?_) List.pairwise_lt_range
 exact ztN hs ar a b h (List.mem_range.1 hb)
structure zD4 (names:List Str)(ps:List Pd)(size:Nat):Prop where
 nm:zD7 names
 pd:zx4 ps
 ar:∀p∈ps,0≤p.arity∧p.arity≤3
 s1:1≤size
 s4:size≤4
 ln:names.length≤10000000
 lp:ps.length≤300
theorem zit (names:List Str)(ps:List Pd)(size n:Nat):(zc5 names ps size n).consts.map (·.name)=names:=by
 show(List.zipWith zaH.mk names (zbO size names.length _)).map (·.name)=names
 have:=zrF (vars:=names) (l:=zbO size names.length (n / 2^za4 size ps)) (zec _ _ _)
 exact this
theorem zw1 {names:List Str}{ps:List Pd}{size n:Nat}{c:zaH}(hs:0<size)(h:c∈(zc5 names ps size n).consts):0≤c.value∧c.value<(size:Int):=by
 have h2:c∈zCy names (zbO size names.length (n / 2^za4 size ps)):=h
 exact zp1 hs _ _ _ (ztY h2)
theorem zt2 {names:List Str}{ps:List Pd}{size n:Nat}(h:zD4 names ps size):zAw (zc5 names ps size n):=by
 have hc:(zc5 names ps size n).consts.length=names.length:=by
  have:=congrArg List.length (zit names ps size n);simpa using this
 have hr:(zc5 names ps size n).rels.length=ps.length:=zny _ _ _
 refine⟨fun i j hi hj hij=>?_,fun i j hi hj hij=>?_,fun r hr i j hi hj hij=>?_,by show(1:Int)≤(size:Int);have:=h.s1;omega,by show(size:Int)≤6;have:=h.s4;omega,by rw[hc];exact h.ln,by rw[hr];exact h.lp⟩
 ·have e1:∀k (hk:k<(zc5 names ps size n).consts.length),(zc5 names ps size n).consts[k].name=names[k]'(by rw[←hc];exact hk):=fun k hk=>by
   have:=List.getElem_of_eq (zit names ps size n) (i:=k) (by rw[List.length_map];exact hk)
   rw[←this,List.getElem_map]
  rw[e1 i hi,e1 j hj]
  exact(List.pairwise_iff_getElem.1 h.nm) i j _ _ hij
 ·have e1:∀k (hk:k<(zc5 names ps size n).rels.length),(⟨(zc5 names ps size n).rels[k].name,(zc5 names ps size n).rels[k].arity⟩:Pd)=ps[k]'(by rw[←hr];exact hk):=fun k hk=>by
   have:=List.getElem_of_eq (zlo size ps (ztf (za4 size ps) n)) (i:=k) (by rw[List.length_map];exact hk)
   rw[←this,List.getElem_map];rfl
  have h2:=(List.pairwise_iff_getElem.1 h.pd) i j (by rw[←hr];exact hi) (by rw[←hr];exact hj) hij
  rw[←e1 i hi,←e1 j hj]at h2
  exact h2
 ·obtain⟨p,_,b,rfl⟩:=znz hr
  exact(List.pairwise_iff_getElem.1 (zyb (by have:=h.s1;omega))) i j hi hj hij
end Go.Abs
namespace Go.Abs
open Go
theorem zmA {s:Nat}(hs:0<s):∀k i,zbO s k (i % s^k)=zbO s k i
 |0,_=>rfl
 |k+1,i=>by
  rw[zbO,zbO]
  have h1:i % s^(k+1) / s=(i / s) % s^k:=by
   rw[Nat.pow_succ,Nat.mul_comm,Nat.mod_mul,Nat.add_mul_div_left _ _ hs,Nat.div_eq_of_lt (Nat.mod_lt _ hs),Nat.zero_add]
  have h2:i % s^(k+1) % s=i % s:=by
   rw[Nat.pow_succ,Nat.mul_comm,Nat.mod_mul,Nat.add_mul_mod_self_left,Nat.mod_mod]
  rw[h1,h2,zmA hs k]
def okF (fs:List zab)(m:zaB):Bool:=fs.all fun f=>zaT m f []
def zlV (fs:List zab)(size:Nat):Option Nat:=zmd size (zaL fs).length (zhK fs)
def zxB (fs:List zab)(size n:Nat):zaB:=zc5 (zaL fs) (zhK fs) size n
def zei (fs:List zab)(size n:Nat):List zaB:=((List.range n).map (zxB fs size)).filter (okF fs)
def zcA (fs:List zab)(size:Nat):Option (List zaB):=(zlV fs size).map (zei fs size)
theorem zr0 (fs:List zab)(size n:Nat):zei fs size (n+1)=zei fs size n++(if okF fs (zxB fs size n)=true then[zxB fs size n]else[]):=by
 unfold zei
 rw[List.range_succ,List.map_append,List.filter_append]
 congr 1
 simp only[List.map_cons,List.map_nil,List.filter_cons,List.filter_nil]
theorem zuC (fs:List zab)(size:Nat):∀n,(zei fs size n).length≤n:=fun n=>by
 unfold zei
 refine Nat.le_trans (List.length_filter_le _ _) ?_
 simp
theorem zuD (fs:List zab)(size:Nat){n t:Nat}(h:n≤t):∃r,zei fs size t=zei fs size n++r:=by
 obtain⟨k,rfl⟩:=Nat.exists_eq_add_of_le h
 unfold zei
 rw[List.range_add,List.map_append,List.filter_append]
 exact⟨_,rfl⟩
def zjf:zaB:=⟨0,[],[]⟩
def zrh:List zab→Nat→zdo
 |[],_=>⟨0,0⟩
 |f::fs,i=>if(zaw false f).code≠0 then⟨(zaw false f).code,i⟩else if 5<zco f then⟨17,i⟩else zrh fs (i+1)
def zb1 (fs:List zab)(size:Int):zdo:=if 41<fs.length then⟨2, -1⟩else if(zrh fs 0).code≠0 then zrh fs 0 else if size<1∨4<size then⟨3, -2⟩else⟨0,0⟩
theorem zl8:∀{fs:List zab} {i:Nat},(zrh fs i).code=0→zrh fs i=⟨0,0⟩∧∀f∈fs,(zaw false f).code=0∧zco f≤5
 |[],i,_=>⟨rfl,by simp⟩
 |f::fs,i,h=>by
  rw[zrh]at h ⊢
  by_cases h1:(zaw false f).code=0
  ·rw[if_neg (by simp[h1])]at h ⊢
   by_cases h2:5<zco f
   ·rw[if_pos h2]at h;simp at h
   ·rw[if_neg h2]at h ⊢
    obtain⟨h3,h4⟩:=zl8 h
    refine⟨h3,fun g hg=>?_⟩
    rcases List.mem_cons.1 hg with rfl|hg
    ·exact⟨h1,by omega⟩
    ·exact h4 g hg
  ·rw[if_pos h1]at h;exact absurd h h1
theorem zgf {fs:List zab}{size:Int}(h:(zb1 fs size).code=0):zb1 fs size=⟨0,0⟩∧fs.length≤41∧(∀f∈fs,(zaw false f).code=0∧zco f≤5)∧1≤size∧size≤4:=by
 unfold zb1 at h ⊢
 by_cases h1:41<fs.length
 ·rw[if_pos h1]at h;exact absurd h (by decide)
 rw[if_neg h1]at h ⊢
 by_cases h2:(zrh fs 0).code=0
 rotate_left
 ·rw[if_pos h2]at h;exact absurd h h2
 rw[if_neg (by simp[h2])]at h ⊢
 by_cases h3:size<1∨4<size
 ·rw[if_pos h3]at h;exact absurd h (by decide)
 rw[if_neg h3]
 exact⟨rfl,by omega,(zl8 h2).2,by omega,by omega⟩
def ziu (fs:List zab):Nat→Nat→zaB×Bool×zdo
 |_,0=>(zjf,false,⟨0,0⟩)
 |k,left+1=>match zcA fs k with
  |none=>(zjf,false,⟨17, -2⟩)
  |some []=>ziu fs (k+1) left
  |some (m::_)=>(m,true,⟨0,0⟩)
def zgQ (fs:List zab)(size:Int):zaB×Bool×zdo:=
 if(zb1 fs size).code≠0 then(zjf,false,zb1 fs size)else ziu fs 1 size.toNat
end Go.Abs
namespace Go.Abs
open Go
theorem zJC {l:List zab}{w:Str}:w∈zaL l↔∃f∈l,w∈cst f []:=by
 unfold zaL
 constructor
 ·intro h
  obtain⟨x,hx,rfl⟩:=List.mem_map.1 h
  have h2:=(zcw _).mem_iff.1 ((zeh _ _).1 hx)
  obtain⟨y,hy,rfl⟩:=List.mem_map.1 h2
  obtain⟨f,hf,h3⟩:=List.mem_flatMap.1 hy
  exact⟨f,hf,(zbm f _).1 h3⟩
 ·rintro⟨f,hf,hw⟩
  refine List.mem_map.2 ⟨w.l,(zeh _ _).2 ((zcw _).mem_iff.2 (List.mem_map.2 ⟨w,List.mem_flatMap.2 ⟨f,hf,(zbm f w).2 hw⟩,rfl⟩)),rfl⟩
theorem zj2 (l:List zab):zD7 (zaL l):=zx5 _
theorem zp7:∀{l:List zab},(∀f∈l,f.fit=true∧f.size≤200)→(l.flatMap zaP).length≤l.length*200000
 |[],_=>by simp
 |f::l,h=>by
  rw[List.flatMap_cons,List.length_append,List.length_cons]
  have h1:=zp7 fun g hg=>h g (List.mem_cons_of_mem _ hg)
  have h2:=h f (by simp)
  have h3:=zd0 f [] h2.1
  have h4:=zfn f
  omega
theorem zzQ {l:List zab}(h:∀f∈l,(zaw false f).code=0):∀f∈l,f.fit=true∧f.size≤200:=fun f hf=>⟨zb3 (h f hf),za7 (h f hf)⟩
theorem zj1 {l:List zab}(h:∀f∈l,(zaw false f).code=0)(hl:l.length≤41):(zaL l).length≤10000000:=by
 have h1:=zp7 (zzQ h)
 unfold zaL
 rw[List.length_map]
 refine Nat.le_trans (zc3 _) ?_
 rw[zel,List.length_map]
 omega
mutual
theorem zqu:∀(f:zab),vok f→∀p∈pds f,0≤p.arity∧p.arity≤3
 | .mk k nm ws s,h,p,hp=>by
  rw[vok]at h
  rw[pds]at hp
  rcases List.mem_append.1 hp with hp|hp
  ·split at hp
   ·rename_i hk
    have:=h.2.2.1 hk
    rw[List.mem_singleton.1 hp]
    exact⟨by simp only;omega,by simp only;omega⟩
   ·simp at hp
  ·exact zuQ s h.2.2.2.2.2.2 p hp
theorem zuQ:∀(fs:List zab),zhA fs→∀p∈zdJ fs,0≤p.arity∧p.arity≤3
 |[],_,p,hp=>by simp[zdJ]at hp
 |f::fs,h,p,hp=>by
  rw[zhA]at h
  rw[zdJ]at hp
  rcases List.mem_append.1 hp with hp|hp
  ·exact zqu f h.1 p hp
  ·exact zuQ fs h.2 p hp
end
theorem zy2 {fs:List zab}(hv:∀f∈fs,(zaw false f).code=0):∀p∈zhK fs,0≤p.arity∧p.arity≤3:=fun p hp=>by
 obtain⟨f,hf,h⟩:=zhT.1 hp
 exact zqu f (zb4 (hv f hf)) p h
theorem zD5 {fs:List zab}{size n:Nat}(hv:∀f∈fs,(zaw false f).code=0)(hl:fs.length≤41)(h1:1≤size)(h4:size≤4)(hn:zlV fs size=some n):zD4 (zaL fs) (zhK fs) size:=by
 obtain⟨_,_,h3⟩:=zfq h1 hn
 have h5:=zme h1 (zhK fs)
 exact⟨zj2 fs,zqG fs,zy2 hv,h1,h4,zj1 hv hl,by omega⟩
end Go.Abs
namespace Go.Abs
open Go
mutual
theorem zxI:∀(f:zab),shp false f→∀p∈pds f,zat p.name=true
 | .mk k nm ws s,h,p,hp=>by
  rw[shp]at h
  rw[pds]at hp
  rcases List.mem_append.1 hp with hp|hp
  ·split at hp
   ·rename_i hk
    rw[List.mem_singleton.1 hp]
    subst hk
    exact h.1.2.2.1 rfl (by unfold isQ;show¬((2:Int)=8∨(2:Int)=9);omega)
   ·simp at hp
  ·exact znq s h.2 p hp
theorem znq:∀(fs:List zab),zeS false fs→∀p∈zdJ fs,zat p.name=true
 |[],_,p,hp=>by simp[zdJ]at hp
 |f::fs,h,p,hp=>by
  rw[zeS]at h
  rw[zdJ]at hp
  rcases List.mem_append.1 hp with hp|hp
  ·exact zxI f h.1 p hp
  ·exact znq fs h.2 p hp
end
mutual
theorem zxe {m:zaB}:∀(f:zab),(∀p∈pds f,(zkP m p.name p.arity).isSome=true)→zz3 m f=true
 | .mk k nm ws s,h=>by
  rw[zz3]
  have h2:=zm1 s fun p hp=>h p (by rw[pds];exact List.mem_append_right _ hp)
  by_cases hk:k=2
  ·have h3:=h ⟨nm,ws.length⟩ (by rw[pds,if_pos hk];simp)
   simp[h2,h3]
  ·simp[h2,hk]
theorem zm1 {m:zaB}:∀(fs:List zab),(∀p∈zdJ fs,(zkP m p.name p.arity).isSome=true)→zk0 m fs=true
 |[],_=>by rw[zk0]
 |f::fs,h=>by
  rw[zk0,zxe f fun p hp=>h p (by rw[zdJ];exact List.mem_append_left _ hp),zm1 fs fun p hp=>h p (by rw[zdJ];exact List.mem_append_right _ hp)]
  rfl
end
end Go.Abs
namespace Go.Abs
open Go
theorem zqm {l:List zab}{k:Nat}{ms:List zaB}{m:zaB}(h:zcA l k=some ms)(hm:m∈ms):∃n i,zlV l k=some n∧m=zxB l k i∧okF l m=true:=by
 unfold zcA at h
 cases hn:zlV l k with
 |none=>rw[hn]at h;cases h
 |some n=>
  rw[hn]at h
  obtain rfl:zei l k n=ms:=Option.some.inj h
  unfold zei at hm
  obtain⟨h1,h2⟩:=List.mem_filter.1 hm
  obtain⟨i,_,e⟩:=List.mem_map.1 h1
  exact⟨n,i,rfl,e.symm,h2⟩
theorem zp6 {l:List zab}{m:zaB}{e:zdo}:∀{left k:Nat},ziu l k left=(m,true,e)→∃j,k≤j∧j<k+left∧(∃ms,zcA l j=some (m::ms))∧(∀i,k≤i→i<j→zcA l i=some [])∧e=⟨0,0⟩
 |0,k,h=>by rw[ziu]at h;simp at h
 |left+1,k,h=>by
  rw[ziu]at h
  cases hm:zcA l k with
  |none=>rw[hm]at h;simp at h
  |some ms=>
   rw[hm]at h
   cases ms with
   |nil=>
    obtain⟨j,h1,h2,h3,h4,h5⟩:=zp6 (left:=left) (k:=k+1) h
    refine⟨j,by omega,by omega,h3,fun i hi hj=>?_,h5⟩
    rcases Nat.lt_or_ge k i with h6|h6
    ·exact h4 i h6 hj
    ·obtain rfl:i=k:=by omega
     exact hm
   |cons x ms=>
    simp only[Prod.mk.injEq]at h
    obtain⟨rfl,_,rfl⟩:=h
    exact⟨k,Nat.le_refl _,by omega,⟨ms,hm⟩,fun i h1 h2=>by omega,rfl⟩
theorem zzP {l:List zab}{size:Int}{m:zaB}{e:zdo}(h:zgQ l size=(m,true,e)):∃j:Nat,(zb1 l size).code=0∧1≤j∧(j:Int)≤size∧(∃ms,zcA l j=some (m::ms))∧(∀i,1≤i→i<j→zcA l i=some [])∧e=⟨0,0⟩:=by
 unfold zgQ at h
 split at h
 ·simp at h
 ·rename_i h0
  obtain⟨j,h1,h2,h3,h4,h5⟩:=zp6 h
  have:=(zgf (Decidable.not_not.1 h0)).2.2.2.1
  exact⟨j,Decidable.not_not.1 h0,h1,by omega,h3,h4,h5⟩
theorem znh {l:List zab}{k:Nat}{x:zaB}{ms:List zaB}(h:zcA l k=some ms)(hx:x∈ms):x.size=(k:Int):=by
 obtain⟨n,i,_,rfl,_⟩:=zqm h hx
 rfl
def zGd:Str:=⟨[100,111,103]⟩
def zHv:Str:=⟨[107,105,109]⟩
def zCt:zab:= .mk 2 zGd [zHv] []
end Go.Abs
namespace Go.Abs
open Go
structure zB4 where
 kind:Int
 proof:Prf
 model:zaB
@[go_sem] theorem zdv {v:zB4}:zB4.mk v.kind v.proof v.model=v:=by cases v;rfl
instance:Enc zB4:=⟨fun v=> .agg [.i .i64 v.kind,.i .i64 v.proof.kind,.i .i64 v.proof.form,.i .i64 v.proof.other,.s v.proof.name.l,.sl (v.proof.subs.map enc),.i .i64 v.model.size,.sl (v.model.consts.map enc),.sl (v.model.rels.map enc)],
 fun x=>match x with| .agg [.i _ k,.i _ a,.i _ b,.i _ c,.s n,.sl s,.i _ z,.sl cs,.sl rs]=>⟨k,.mk a b c ⟨n⟩ (s.map dec),⟨z,cs.map dec,rs.map dec⟩⟩|_=>⟨0,.mk 0 0 0 ⟨[]⟩ [],⟨0,[],[]⟩⟩,fun v=>by
  cases v with
  |mk k p m=>simp only[zcT];rw[show(⟨p.name.l⟩:Str)=p.name from rfl,zaz]⟩
@[go_sem] theorem zED {v:zB4}:enc v= .agg [.i .i64 v.kind,.i .i64 v.proof.kind,.i .i64 v.proof.form,.i .i64 v.proof.other,.s v.proof.name.l,.sl (v.proof.subs.map enc),.i .i64 v.model.size,.sl (v.model.consts.map enc),.sl (v.model.rels.map enc)]:=rfl
@[go_sem] theorem zEB {i j h l i2 k a b c n s z cs rs}:dec (α:=zB4) (.agg [.i i k,.i j a,.i h b,.i l c,.s n,.sl s,.i i2 z,.sl cs,.sl rs])=⟨k,.mk a b c ⟨n⟩ (dec (.sl s)),⟨z,dec (.sl cs),dec (.sl rs)⟩⟩:=rfl
theorem zt0 {names:List Str}{ps:List Pd}{size n:Nat}(hs:0<size):zCz (zc5 names ps size n) []:=fun w=>by
 show ze2 (zc5 names ps size n) w∈zc7 (zc5 names ps size n)
 have key:∀v:Int,0≤v→v<(size:Int)→v∈zc7 (zc5 names ps size n):=fun v h1 h2=>by
  have:=ziA (m:=zc5 names ps size n) (v:=v.toNat) (by show((v.toNat:Nat):Int)<(size:Int);omega)
  rwa [Int.toNat_of_nonneg h1]at this
 unfold ze2
 split
 ·rename_i c hc
  have:=zw1 hs (List.mem_of_find?_eq_some hc)
  exact key _ this.1 this.2
 ·exact key 0 (by omega) (by omega)
theorem zt4 {l:List zab}{size:Int}{m:zaB}{e:zdo}(h:zgQ l size=(m,true,e)):zCz m []∧∀f∈l,zaT m f []=true:=by
 obtain⟨j,_,h1,_,⟨ms,hms⟩,_,_⟩:=zzP h
 obtain⟨n,i,_,he,hok⟩:=zqm hms (show m∈m::ms by simp)
 refine⟨by rw[he];exact zt0 h1,fun f hf=>?_⟩
 exact(List.all_eq_true.1 hok) f hf
end Go.Abs
namespace Go.Abs
open Go
theorem zpW (f:zab):cst (zbD f) []=cst f []:=by
 unfold zbD
 rw[cst,zbC,zbC]
 simp[isQ]
theorem zxJ (f:zab):pds (zbD f)=pds f:=by
 unfold zbD
 rw[pds,zdJ,zdJ]
 simp
theorem zqY (m:zaB)(f:zab):zaT m (zbD f) []= !zaT m f []:=by
 unfold zbD
 rw[zaT,zbL,zbL]
 simp
end Go.Abs
namespace Go.Abs
open Go
mutual
def opn:zab→Bool
 | .mk k _ _ s=> !decide (isQ k)&&ziN s
def ziN:List zab→Bool
 |[]=>true
 |f::fs=>opn f&&ziN fs
end
theorem zqt:∀{l:List zab},ziN l=true→∀f∈l,opn f=true
 |[],_,f,hf=>by simp at hf
 |x::l,h,f,hf=>by
  rw[ziN,Bool.and_eq_true]at h
  rcases List.mem_cons.1 hf with rfl|hf
  ·exact h.1
  ·exact zqt h.2 f hf
theorem zoZ (ws:List Str):ws.map (lkp [])=ws:=by
 rw[show lkp []=id from funext zcS,List.map_id]
mutual
theorem zpc (g:Nat→Str×Nat):∀(f:zab) (n:Nat),opn f=true→(ren g f [] n).1=f
 | .mk k nm ws s,n,h=>by
  rw[opn,Bool.and_eq_true]at h
  rw[ren,if_neg (by simpa using h.1),zoZ]
  show zab.mk k nm ws _=_
  rw[zqz g s n h.2]
theorem zqz (g:Nat→Str×Nat):∀(fs:List zab) (n:Nat),ziN fs=true→(zbb g fs [] n).1=fs
 |[],n,_=>by rw[zbb]
 |f::fs,n,h=>by
  rw[ziN,Bool.and_eq_true]at h
  rw[zbb]
  simp only
  rw[zpc g f n h.1,zqz g fs _ h.2]
end
theorem zcG {f:zab}(h:opn f=true):cnn f=f:=by unfold cnn zaD;exact zpc _ f 0 h
theorem zqp {f:zab}(h:opn f=true):opn (zbD f)=true:=by
 unfold zbD
 rw[opn,ziN,ziN,h]
 decide
theorem zcW {f:zab}(h:opn f=true):ngg f=zbD f:=by unfold ngg zaD;exact zpc _ _ 0 (zqp h)
structure okH (ns:List Str)(ps:List Pd)(f:zab):Prop where
 o:opn f=true
 v:vok f
 c:∀w∈cst f [],w∈ns
 p:∀p∈pds f,p∈ps
section
variable {ns:List Str} {ps:List Pd}
theorem zo5 {f a:zab}(h:okH ns ps f)(ha:a∈f.subs):okH ns ps a:=by
 obtain⟨ho,hv,hc,hp⟩:=h
 obtain⟨k,nm,ws,s⟩:=f
 simp only[zaK]at ha
 rw[opn,Bool.and_eq_true]at ho
 have hq:¬isQ k:=by simpa using ho.1
 refine⟨zqt ho.2 a ha,?_,fun w hw=>hc w ?_,fun p hp2=>hp p ?_⟩
 ·rw[vok]at hv;exact(zfC s).1 hv.2.2.2.2.2.2 a ha
 ·rw[cst,if_neg hq]
  refine List.mem_append_right _ ?_
  clear hc hp hv ho
  induction s with
  |nil=>simp at ha
  |cons x s ih=>
   rw[zbC]
   rcases List.mem_cons.1 ha with rfl|ha
   ·exact List.mem_append_left _ hw
   ·exact List.mem_append_right _ (ih ha)
 ·rw[pds]
  exact List.mem_append_right _ (zgu.2 ⟨a,ha,hp2⟩)
theorem zfR {f:zab}(h:okH ns ps f):okH ns ps (zbD f):=by
 refine⟨zqp h.o,?_,fun w hw=>h.c w (zxA hw),fun p hp=>h.p p ?_⟩
 ·unfold zbD
  rw[vok,zhA,zhA]
  exact⟨by decide,by decide,fun e=>absurd e (by decide),fun e=>absurd e (by decide),fun _=>rfl,fun e=>by omega,h.v,trivial⟩
 ·unfold zbD at hp
  rw[pds,zdJ,zdJ]at hp
  simpa using hp
theorem zlh {f:zab}(h:okH ns ps f)(hk:f.kind=4):∃a,f.subs=[a]∧zbJ f=a∧okH ns ps a:=by
 have h1:=(zbM.1 h.v).2.2.2.2.1 (.inl hk)
 match hs:f.subs,h1 with
 |[a],_=>exact⟨a,rfl,by unfold zbJ;rw[hs];rfl,zo5 h (by rw[hs];simp)⟩
theorem zdi {f:zab}(h:okH ns ps f)(hk:f.kind=5∨f.kind=6∨f.kind=7):∃a b,f.subs=[a,b]∧zbJ f=a∧zvm f=b∧okH ns ps a∧okH ns ps b:=by
 have h1:=(zbM.1 h.v).2.2.2.2.2.1 hk
 match hs:f.subs,h1 with
 |[a,b],_=>exact⟨a,b,rfl,by unfold zbJ;rw[hs];rfl,by unfold zvm;rw[hs];rfl,zo5 h (by rw[hs];simp),zo5 h (by rw[hs];simp)⟩
theorem zhR {f:zab}(h:okH ns ps f):f.kind≠8∧f.kind≠9:=by
 have h1:=h.o
 obtain⟨k,nm,ws,s⟩:=f
 rw[opn,Bool.and_eq_true]at h1
 have hq:¬isQ k:=by simpa using h1.1
 unfold isQ at hq
 show k≠8∧k≠9
 omega
theorem zuM {f:zab}(h:okH ns ps f):(∀x∈(zaf f).2.1,okH ns ps x)∧(zaf f).1≠3∧(zaf f).1≠4:=by
 obtain⟨k8,k9⟩:=zhR h
 have two:∀{a b x:zab},okH ns ps a→okH ns ps b→x∈[a,b]→okH ns ps x:=fun ha hb hx=>by
  simp only[List.mem_cons,List.not_mem_nil,or_false]at hx
  rcases hx with rfl|rfl<;>assumption
 unfold zaf
 by_cases k5:f.kind=5
 ·obtain⟨a,b,_,s0,s1,ha,hb⟩:=zdi h (.inl k5)
  rw[if_pos k5,s0,s1,zcG ha.o,zcG hb.o]
  exact⟨fun x hx=>two ha hb hx,by simp,by simp⟩
 rw[if_neg k5]
 by_cases k6:f.kind=6
 ·obtain⟨a,b,_,s0,s1,ha,hb⟩:=zdi h (.inr (.inl k6))
  rw[if_pos k6,s0,s1,zcG ha.o,zcG hb.o]
  exact⟨fun x hx=>two ha hb hx,by simp,by simp⟩
 rw[if_neg k6]
 by_cases k7:f.kind=7
 ·obtain⟨a,b,_,s0,s1,ha,hb⟩:=zdi h (.inr (.inr k7))
  rw[if_pos k7,s0,s1,zcW ha.o,zcG hb.o]
  exact⟨fun x hx=>two (zfR ha) hb hx,by simp,by simp⟩
 rw[if_neg k7,if_neg k8,if_neg k9]
 by_cases k4:f.kind=4
 rotate_left
 ·rw[if_neg k4];exact⟨fun x hx=>by simp at hx,by simp,by simp⟩
 rw[if_pos k4]
 obtain⟨g,_,s0,hg⟩:=zlh h k4
 obtain⟨j8,j9⟩:=zhR hg
 rw[s0]
 by_cases j4:g.kind=4
 ·obtain⟨a,_,t0,ha⟩:=zlh hg j4
  rw[if_pos j4,t0,zcG ha.o]
  exact⟨fun x hx=>by rw[List.mem_singleton.1 hx];exact ha,by simp,by simp⟩
 rw[if_neg j4]
 by_cases j5:g.kind=5
 ·obtain⟨a,b,_,t0,t1,ha,hb⟩:=zdi hg (.inl j5)
  rw[if_pos j5,t0,t1,zcW ha.o,zcW hb.o]
  exact⟨fun x hx=>two (zfR ha) (zfR hb) hx,by simp,by simp⟩
 rw[if_neg j5]
 by_cases j6:g.kind=6
 ·obtain⟨a,b,_,t0,t1,ha,hb⟩:=zdi hg (.inr (.inl j6))
  rw[if_pos j6,t0,t1,zcW ha.o,zcW hb.o]
  exact⟨fun x hx=>two (zfR ha) (zfR hb) hx,by simp,by simp⟩
 rw[if_neg j6]
 by_cases j7:g.kind=7
 ·obtain⟨a,b,_,t0,t1,ha,hb⟩:=zdi hg (.inr (.inr j7))
  rw[if_pos j7,t0,t1,zcG ha.o,zcW hb.o]
  exact⟨fun x hx=>two ha (zfR hb) hx,by simp,by simp⟩
 rw[if_neg j7,if_neg j8,if_neg j9]
 exact⟨fun x hx=>by simp at hx,by simp,by simp⟩
end
def zgO (l:List zab)(f:zab):Prop:=((zaf f).1=1→∀x∈(zaf f).2.1,x∈l)∧((zaf f).1=2→∃x∈(zaf f).2.1,x∈l)
theorem zwB {l l':List zab}{f:zab}(h:zgO l f)(hs:∀x∈l,x∈l'):zgO l' f:=
 ⟨fun e x hx=>hs x (h.1 e x hx),fun e=>by obtain⟨x,hx,h2⟩:=h.2 e;exact⟨x,hx,hs x h2⟩⟩
structure zHS (b:Brn):Prop where
 l:b.used.length=b.list.length
 d:∀i (h:i<b.list.length) (h2:i<b.used.length),b.used[i]=true→zgO b.list b.list[i]
theorem zfA {want:Int}:∀{l:List zab} {u:List Bool} {k i:Nat},zcf want l u k=some i→∃j,∃(h:j<l.length) (h2:j<u.length),i=k+j∧u[j]=false∧(zaf l[j]).1=want
 |[],_,_,_,h=>by rw[zcf]at h;cases h
 |_::_,[],_,_,h=>by rw[zcf]at h;cases h
 |f::fs,u::us,k,i,h=>by
  rw[zcf]at h
  split at h
  ·rename_i h1
   cases h
   exact⟨0,by simp,by simp,rfl,h1.1,h1.2⟩
  ·obtain⟨j,h2,h3,e,h4,h5⟩:=zfA h
   exact⟨j+1,by simpa using h2,by simpa using h3,by omega,by simpa using h4,by simpa using h5⟩
theorem zgW {want:Int}:∀{l:List zab} {u:List Bool} {k:Nat},zcf want l u k=none→∀j (h:j<l.length) (h2:j<u.length),(zaf l[j]).1=want→u[j]=true
 |[],_,_,_,j,h,_,_=>by simp at h
 |_::_,[],_,_,j,_,h,_=>by simp at h
 |f::fs,u::us,k,h,j,h1,h2,h3=>by
  rw[zcf]at h
  split at h
  ·cases h
  ·rename_i h4
   cases j with
   |zero=>
    simp only[List.getElem_cons_zero]at h3 ⊢
    cases hu:u with
    |true=>rfl
    |false=>exact absurd ⟨hu,h3⟩ h4
   |succ j=>
    simp only[List.getElem_cons_succ]at h3 ⊢
    exact zgW h j (by simpa using h1) (by simpa using h2) h3
theorem zqC {b:Brn}{i:Nat}{xs:List zab}(h:zHS b)(hi:i<b.list.length)(hd:zgO (b.list++xs) b.list[i]):zHS (zbX (zcL b i) xs):=by
 refine⟨?_,fun j h1 h2 h3=>?_⟩
 ·show(b.used.set i true++List.replicate xs.length false).length=(b.list++xs).length
  rw[List.length_append,List.length_set,List.length_replicate,List.length_append,h.l]
 ·have h1':j<(b.list++xs).length:=h1
  have h2':j<(b.used.set i true++List.replicate xs.length false).length:=h2
  show zgO (b.list++xs) ((b.list++xs)[j]'h1')
  have h4:(b.used.set i true++List.replicate xs.length false)[j]'h2'=true:=h3
  rcases Nat.lt_or_ge j b.list.length with h5|h5
  ·rw[List.getElem_append_left h5]
   have h6:j<(b.used.set i true).length:=by rw[List.length_set,h.l];exact h5
   rw[List.getElem_append_left h6,List.getElem_set]at h4
   split at h4
   ·rename_i e;subst e;exact hd
   ·exact zwB (h.d j h5 (by rw[h.l];exact h5) h4) fun x hx=>List.mem_append_left _ hx
  ·rw[List.getElem_append_right (by rw[List.length_set,h.l];exact h5),List.getElem_replicate]at h4
   cases h4
structure zBe (P:zab→Prop)(l0 l:List zab):Prop where
 s:∀f∈l0,f∈l
 c:zcF l=none
 p:∀f∈l,P f
 d:∀f∈l,zgO l f
section
variable {P:zab→Prop}
theorem zmH {a b l:List zab}(h:zBe P (a++b) l):zBe P a l:=⟨fun f hf=>h.s f (List.mem_append_left _ hf),h.c,h.p,h.d⟩
theorem zpx {rec:Brn→Int→Res}{b1:Brn}{i:Nat}:∀{xs:List zab} {subs:List Prf} {a:Int},(zeX rec b1 i xs subs a).ok=false→(zeX rec b1 i xs subs a).lim=false→∃x∈xs,∃a',(rec (zbX b1 [x]) a').ok=false∧(rec (zbX b1 [x]) a').lim=false
 |[],_,_,h,_=>by rw[zeX]at h;cases h
 |x::xs,subs,a,h,h2=>by
  rw[zeX]at h h2
  by_cases h3:300<a+1
  ·rw[if_pos h3]at h2;cases h2
  rw[if_neg h3]at h h2
  by_cases h4:(rec (zbX b1 [x]) (a+1)).ok=false
  ·rw[if_pos h4]at h2
   exact⟨x,by simp,a+1,h4,h2⟩
  ·rw[if_neg h4]at h h2
   obtain⟨y,hy,a',h5⟩:=zpx h h2
   exact⟨y,by simp[hy],a',h5⟩
theorem zpe (hP:∀f,P f→(∀x∈(zaf f).2.1,P x)∧(zaf f).1≠3∧(zaf f).1≠4):∀(n:Nat) (b:Brn) (a:Int),(zhJ 0 n b a).ok=false→(zhJ 0 n b a).lim=false→b.rounds=0→zHS b→(∀f∈b.list,P f)→∃l,zBe P b.list l
 |0,b,a,_,h2,_,_,_=>by rw[zhJ]at h2;cases h2
 |n+1,b,a,h,h2,hr,hs,hp=>by
  rw[zhJ]at h h2
  unfold znS at h h2
  cases hc:zcF b.list with
  |some p=>rw[hc]at h;cases h
  |none=>
   rw[hc]at h h2
   simp only at h h2
   have hget:∀i (hi:i<b.list.length),b.list.getD i za2=b.list[i]:=fun i hi=>by
    rw[List.getD_eq_getElem?_getD,List.getElem?_eq_getElem hi];rfl
   rw[zgv]at h h2
   cases h1:zcf 1 b.list b.used 0 with
   |some i=>
    rw[h1]at h h2
    simp only at h h2
    obtain⟨j,hj,_,rfl,_,hw⟩:=zfA h1
    rw[Nat.zero_add,hget j hj]at h h2
    have hpj:=hP _ (hp _ (List.getElem_mem hj))
    unfold zc6 at h h2
    rw[if_pos hw]at h h2
    by_cases h3:300<a+((zaf b.list[j]).2.1.length:Int)
    ·rw[if_pos h3]at h2;cases h2
    rw[if_neg h3]at h h2
    obtain⟨l,hl⟩:=zpe hP n _ _ h h2 hr (zqC (xs:=(zaf b.list[j]).2.1) hs hj ⟨fun _ x hx=>List.mem_append_right _ hx,fun e=>by rw[hw]at e;cases e⟩) (fun f hf=>by
     rcases List.mem_append.1 hf with hf|hf
     ·exact hp f hf
     ·exact hpj.1 f hf)
    exact⟨l,zmH hl⟩
   |none=>
    rw[h1]at h h2
    simp only at h h2
    rw[zgv]at h h2
    cases h4:zcf 4 b.list b.used 0 with
    |some i=>
     obtain⟨j,hj,_,rfl,_,hw⟩:=zfA h4
     exact absurd hw (hP _ (hp _ (List.getElem_mem hj))).2.2
    |none=>
     rw[h4]at h h2
     simp only at h h2
     rw[zgv]at h h2
     cases h5:zcf 2 b.list b.used 0 with
     |some i=>
      rw[h5]at h h2
      simp only at h h2
      obtain⟨j,hj,_,rfl,_,hw⟩:=zfA h5
      rw[Nat.zero_add,hget j hj]at h h2
      have hpj:=hP _ (hp _ (List.getElem_mem hj))
      unfold zc6 at h h2
      rw[if_neg (by omega),if_neg (by omega)]at h h2
      obtain⟨x,hx,a',h6,h7⟩:=zpx h h2
      obtain⟨l,hl⟩:=zpe hP n _ _ h6 h7 hr (zqC (xs:=[x]) hs hj ⟨fun e=>(by rw[hw]at e;cases e),fun _=>⟨x,hx,by simp⟩⟩) (fun f hf=>by
       rcases List.mem_append.1 hf with hf|hf
       ·exact hp f hf
       ·rw[List.mem_singleton.1 hf];exact hpj.1 x hx)
      exact⟨l,zmH hl⟩
     |none=>
      refine⟨b.list,fun f hf=>hf,hc,hp,fun f hf=>?_⟩
      obtain⟨j,hj,rfl⟩:=List.getElem_of_mem hf
      have hu:j<b.used.length:=by rw[hs.l];exact hj
      by_cases w1:(zaf b.list[j]).1=1
      ·exact hs.d j hj hu (zgW h1 j hj hu w1)
      by_cases w2:(zaf b.list[j]).1=2
      ·exact hs.d j hj hu (zgW h5 j hj hu w2)
      exact⟨fun e=>absurd e w1,fun e=>absurd e w2⟩
end
theorem ziv {p:zab→Bool}:∀{l:List zab} {k:Nat},zeO p l k=none→∀x∈l,p x=false
 |[],_,_,x,hx=>by simp at hx
 |y::l,k,h,x,hx=>by
  rw[zeO]at h
  cases hy:p y with
  |true=>rw[hy]at h;simp at h
  |false=>
   rw[hy]at h
   simp only[Bool.false_eq_true,if_false]at h
   rcases List.mem_cons.1 hx with rfl|hx
   ·exact hy
   ·exact ziv h x hx
theorem zhn {c:List za3}{l:List zab}:∀{m:List zab} {i:Nat},zde c l m i=none→∀f∈m,zlU c f=false∧(f.kind=4→(zbJ f).kind=2→∀x∈l,zeu c x (zbJ f)=false)
 |[],_,_,f,hf=>by simp at hf
 |y::m,i,h,f,hf=>by
  rw[zde]at h
  cases hy:zcb c l y i with
  |some p=>rw[hy]at h;cases h
  |none=>
   rw[hy]at h
   simp only at h
   rcases List.mem_cons.1 hf with rfl|hf
   ·unfold zcb at hy
    cases hc:zlU c f with
    |true=>rw[hc]at hy;simp at hy
    |false=>
     rw[hc]at hy
     simp only[Bool.false_eq_true,if_false]at hy
     refine⟨rfl,fun h4 h2 x hx=>?_⟩
     rw[if_pos ⟨h4,h2⟩,Option.map_eq_none_iff]at hy
     exact ziv hy x hx
   ·exact zhn h f hf
theorem zpM:∀(l:List zab) (c:List za3) (x y:Str),zaM c x=zaM c y→zaM (l.foldl zjs c) x=zaM (l.foldl zjs c) y
 |[],c,x,y,h=>h
 |f::l,c,x,y,h=>by
  rw[List.foldl_cons]
  refine zpM l _ x y ?_
  unfold zjs
  split
  ·exact h
  ·split
   ·exact h
   ·rw[zcX,zcX,h]
theorem zpN:∀(l:List zab) (c:List za3) (f:zab),f∈l→f.kind=3→zaM (l.foldl zjs c) (f.words.getD 0 ⟨[]⟩)=zaM (l.foldl zjs c) (f.words.getD 1 ⟨[]⟩)
 |[],_,f,h,_=>by simp at h
 |y::l,c,f,h,hk=>by
  rw[List.foldl_cons]
  rcases List.mem_cons.1 h with rfl|h
  ·refine zpM l _ _ _ ?_
   unfold zjs
   rw[if_neg (by simp[hk])]
   split
   ·assumption
   ·rw[zcX,zcX,if_pos rfl]
    split
    ·rfl
    ·rfl
  ·exact zpN l _ f h hk
structure zyX (ns:List Str)(ps:List Pd)(l:List zab)(m:zaB):Prop where
 w:∀x∈ns,∀y∈ns,(za1 m [] x=za1 m [] y↔zaM (zfE l) x=zaM (zfE l) y)
 r:∀(nm:Str) (ws:List Str),(∀x∈ws,x∈ns)→(⟨nm,(ws.length:Int)⟩:Pd)∈ps→(ws.map (za1 m [])∈zi8 m nm ws.length↔∃h∈l,h.kind=2∧h.name=nm∧h.words.map (zaM (zfE l))=ws.map (zaM (zfE l)))
theorem zgD (m:zaB)(f:zab):zaT m f []=
  if f.kind=1 then true
  else if f.kind=2 then decide (f.words.map (za1 m [])∈zi8 m f.name f.words.length)
  else if f.kind=3 then decide (za1 m [] (f.words.getD 0 ⟨[]⟩)=za1 m [] (f.words.getD 1 ⟨[]⟩))
  else if f.kind=4 then !(f.subs.map fun g=>zaT m g []).getD 0 false
  else if f.kind=5 then(f.subs.map fun g=>zaT m g []).getD 0 false&&(f.subs.map fun g=>zaT m g []).getD 1 false
  else if f.kind=6 then(f.subs.map fun g=>zaT m g []).getD 0 false||(f.subs.map fun g=>zaT m g []).getD 1 false
  else if f.kind=7 then !(f.subs.map fun g=>zaT m g []).getD 0 false||(f.subs.map fun g=>zaT m g []).getD 1 false
  else if f.kind=8 then(zc7 m).all fun v=>(zbL m f.subs ([]++[⟨f.name,v⟩])).getD 0 false
  else if f.kind=9 then(zc7 m).any fun v=>(zbL m f.subs ([]++[⟨f.name,v⟩])).getD 0 false
  else false:=by
 cases f with
 |mk k nm ws s=>rw[zaT,zdc];rfl
theorem zzh {m:zaB}{f a:zab}(hk:f.kind=4)(hs:f.subs=[a]):zaT m f []= !zaT m a []:=by
 rw[zgD,hk,hs];rfl
theorem zzg {m:zaB}{f a b:zab}(hk:f.kind=5)(hs:f.subs=[a,b]):zaT m f []=(zaT m a []&&zaT m b []):=by
 rw[zgD,hk,hs];rfl
theorem zEm {m:zaB}{f a b:zab}(hk:f.kind=6)(hs:f.subs=[a,b]):zaT m f []=(zaT m a []||zaT m b []):=by
 rw[zgD,hk,hs];rfl
theorem zEl {m:zaB}{f a b:zab}(hk:f.kind=7)(hs:f.subs=[a,b]):zaT m f []=(!zaT m a []||zaT m b []):=by
 rw[zgD,hk,hs];rfl
theorem zdL {f:zab}{w:Str}(h:w∈f.words):w∈cst f []:=by
 cases f with
 |mk k nm ws s=>
  rw[cst]
  exact List.mem_append_left _ (List.mem_filter.2 ⟨h,by simp⟩)
theorem zqb {ns:List Str}{ps:List Pd}{l l0:List zab}{m:zaB}(he:zBe (okH ns ps) l0 l)(hm:zyX ns ps l m):∀(n:Nat) (f:zab),f.size≤n→f∈l→zaT m f []=true
 |0,f,hn,_=>by have:=f.size_pos;omega
 |n+1,f,hn,hf=>by
  have ih:=zqb he hm n
  have ho:=he.p f hf
  have hd:=he.d f hf
  have hcl:=zhn (by have:=he.c;unfold zcF at this;exact this) f hf
  obtain⟨k8,k9⟩:=zhR ho
  have hv:=zbM.1 ho.v
  have hnz:∀{a:zab},(zbD a).size=a.size+1:=fun{a}=>by simp[zbD,zab.size,zab.sizes]
  have hneg:∀{a:zab},zaT m (zbD a) []=true→zaT m a []=false:=fun{a} h=>by rw[zqY]at h;simpa using h
  by_cases k1:f.kind=1
  ·rw[zgD,if_pos k1]
  by_cases k2:f.kind=2
  ·rw[zgD,if_neg k1,if_pos k2,decide_eq_true_eq]
   refine(hm.r f.name f.words (fun x hx=>ho.c x (zdL hx)) (ho.p _ ?_)).2 ⟨f,hf,k2,rfl,rfl⟩
   cases f with
   |mk k nm ws s=>
    rw[pds,if_pos (show k=2 from k2)];exact List.mem_append_left _ (List.mem_singleton.2 rfl)
  by_cases k3:f.kind=3
  ·have hl:=hv.2.2.2.1 k3
   rw[zgD,if_neg k1,if_neg k2,if_pos k3,decide_eq_true_eq]
   match hw:f.words,hl with
   |[x,y],_=>
    have h1:=zpN l [] f hf k3
    rw[hw]at h1
    exact(hm.w x (ho.c x (zdL (by rw[hw];simp))) y (ho.c y (zdL (by rw[hw];simp)))).2 h1
  by_cases k5:f.kind=5
  ·obtain⟨a,b,hab,s0,s1,ha,hb⟩:=zdi ho (.inl k5)
   have hz:=zcj hab
   have e:zaf f=(1,[a,b],za2,false):=by unfold zaf;rw[if_pos k5,s0,s1,zcG ha.o,zcG hb.o]
   rw[zgO,e]at hd
   have h1:=hd.1 rfl
   rw[zzg k5 hab,ih a (by omega) (h1 a (by simp)),ih b (by omega) (h1 b (by simp))];rfl
  by_cases k6:f.kind=6
  ·obtain⟨a,b,hab,s0,s1,ha,hb⟩:=zdi ho (.inr (.inl k6))
   have hz:=zcj hab
   have e:zaf f=(2,[a,b],za2,false):=by unfold zaf;rw[if_neg k5,if_pos k6,s0,s1,zcG ha.o,zcG hb.o]
   rw[zgO,e]at hd
   obtain⟨x,hx,hxl⟩:=hd.2 rfl
   simp only[List.mem_cons,List.not_mem_nil,or_false]at hx
   rw[zEm k6 hab]
   rcases hx with rfl|rfl
   ·rw[ih x (by omega) hxl];rfl
   ·rw[ih x (by omega) hxl,Bool.or_true]
  by_cases k7:f.kind=7
  ·obtain⟨a,b,hab,s0,s1,ha,hb⟩:=zdi ho (.inr (.inr k7))
   have hz:=zcj hab
   have hpb:=b.size_pos
   have e:zaf f=(2,[zbD a,b],za2,false):=by unfold zaf;rw[if_neg k5,if_neg k6,if_pos k7,s0,s1,zcW ha.o,zcG hb.o]
   rw[zgO,e]at hd
   obtain⟨x,hx,hxl⟩:=hd.2 rfl
   simp only[List.mem_cons,List.not_mem_nil,or_false]at hx
   rw[zEl k7 hab]
   rcases hx with rfl|rfl
   ·rw[hneg (ih _ (by rw[hnz];omega) hxl)];rfl
   ·rw[ih x (by omega) hxl,Bool.or_true]
  have k4:f.kind=4:=by have:=hv.1;have:=hv.2.1;omega
  obtain⟨g,hg,s0,hgo⟩:=zlh ho k4
  have hzg:=zeL hg
  obtain⟨j8,j9⟩:=zhR hgo
  have hvg:=zbM.1 hgo.v
  rw[s0]at hcl
  have hcon:=hcl.1
  unfold zlU at hcon
  rw[s0,k4]at hcon
  simp only[decide_true,Bool.true_and,Bool.or_eq_false_iff,decide_eq_false_iff_not]at hcon
  rw[zzh k4 hg]
  by_cases j2:g.kind=2
  ·have h1:=hcl.2 k4 j2
   have h2:¬g.words.map (za1 m [])∈zi8 m g.name g.words.length:=fun hh=>by
    obtain⟨x,hx,q1,q2,q3⟩:=(hm.r g.name g.words (fun x hx=>hgo.c x (zdL hx)) (hgo.p _ (by
     cases g with
     |mk k nm ws s=>rw[pds,if_pos (show k=2 from j2)];exact List.mem_append_left _ (List.mem_singleton.2 rfl)))).1 hh
    have h3:=h1 x hx
    unfold zeu at h3
    rw[q1,j2,q2,q3]at h3
    simp at h3
   rw[zgD,if_neg (by omega),if_pos j2,decide_eq_false h2];rfl
  by_cases j3:g.kind=3
  ·have hl:=hvg.2.2.2.1 j3
   have h1:=hcon.2
   rw[j3]at h1
   simp only[decide_true,Bool.true_and,decide_eq_false_iff_not]at h1
   rw[zgD,if_neg hcon.1,if_neg j2,if_pos j3]
   match hw:g.words,hl with
   |[x,y],_=>
    rw[hw]at h1
    have h2:¬za1 m [] x=za1 m [] y:=fun e=>h1 ((hm.w x (hgo.c x (zdL (by rw[hw];simp))) y (hgo.c y (zdL (by rw[hw];simp)))).1 e)
    show(!decide (za1 m [] x=za1 m [] y))=true
    rw[decide_eq_false h2];rfl
  have q8:¬(4:Int)=5∧¬(4:Int)=6∧¬(4:Int)=7∧¬(4:Int)=8∧¬(4:Int)=9:=by decide
  by_cases j4:g.kind=4
  ·obtain⟨a,ha,t0,hao⟩:=zlh hgo j4
   have hza:=zeL ha
   have e:zaf f=(1,[a],za2,false):=by unfold zaf;rw[k4,if_neg q8.1,if_neg q8.2.1,if_neg q8.2.2.1,if_neg q8.2.2.2.1,if_neg q8.2.2.2.2,if_pos rfl,s0,if_pos j4,t0,zcG hao.o]
   rw[zgO,e]at hd
   rw[zzh j4 ha,ih a (by omega) (hd.1 rfl a (by simp))];rfl
  by_cases j5:g.kind=5
  ·obtain⟨a,b,hab,t0,t1,ha,hb⟩:=zdi hgo (.inl j5)
   have hz:=zcj hab
   have hpa:=a.size_pos
   have hpb:=b.size_pos
   have e:zaf f=(2,[zbD a,zbD b],za2,false):=by unfold zaf;rw[k4,if_neg q8.1,if_neg q8.2.1,if_neg q8.2.2.1,if_neg q8.2.2.2.1,if_neg q8.2.2.2.2,if_pos rfl,s0,if_neg j4,if_pos j5,t0,t1,zcW ha.o,zcW hb.o]
   rw[zgO,e]at hd
   obtain⟨x,hx,hxl⟩:=hd.2 rfl
   simp only[List.mem_cons,List.not_mem_nil,or_false]at hx
   rw[zzg j5 hab]
   rcases hx with rfl|rfl
   ·rw[hneg (ih _ (by rw[hnz];omega) hxl)];rfl
   ·rw[hneg (ih _ (by rw[hnz];omega) hxl),Bool.and_false];rfl
  by_cases j6:g.kind=6
  ·obtain⟨a,b,hab,t0,t1,ha,hb⟩:=zdi hgo (.inr (.inl j6))
   have hz:=zcj hab
   have hpa:=a.size_pos
   have hpb:=b.size_pos
   have e:zaf f=(1,[zbD a,zbD b],za2,false):=by unfold zaf;rw[k4,if_neg q8.1,if_neg q8.2.1,if_neg q8.2.2.1,if_neg q8.2.2.2.1,if_neg q8.2.2.2.2,if_pos rfl,s0,if_neg j4,if_neg j5,if_pos j6,t0,t1,zcW ha.o,zcW hb.o]
   rw[zgO,e]at hd
   have h1:=hd.1 rfl
   rw[zEm j6 hab,hneg (ih _ (by rw[hnz];omega) (h1 (zbD a) (by simp))),hneg (ih _ (by rw[hnz];omega) (h1 (zbD b) (by simp)))];rfl
  by_cases j7:g.kind=7
  ·obtain⟨a,b,hab,t0,t1,ha,hb⟩:=zdi hgo (.inr (.inr j7))
   have hz:=zcj hab
   have hpa:=a.size_pos
   have hpb:=b.size_pos
   have e:zaf f=(1,[a,zbD b],za2,false):=by unfold zaf;rw[k4,if_neg q8.1,if_neg q8.2.1,if_neg q8.2.2.1,if_neg q8.2.2.2.1,if_neg q8.2.2.2.2,if_pos rfl,s0,if_neg j4,if_neg j5,if_neg j6,if_pos j7,t0,t1,zcG ha.o,zcW hb.o]
   rw[zgO,e]at hd
   have h1:=hd.1 rfl
   rw[zEl j7 hab,ih a (by omega) (h1 a (by simp)),hneg (ih _ (by rw[hnz];omega) (h1 (zbD b) (by simp)))];rfl
  exfalso
  have:=hvg.1
  have:=hvg.2.1
  have:=hcon.1
  omega
end Go.Abs
namespace Go.Abs
open Go
theorem zhN {s:Nat}(hs:0<s):∀(k:Nat) (ds:List Int),ds.length=k→(∀d∈ds,0≤d∧d<(s:Int))→∃i,i<s^k∧zbO s k i=ds
 |0,ds,hl,_=>⟨0,by simp,by rw[List.eq_nil_of_length_eq_zero hl];rfl⟩
 |k+1,ds,hl,h=>by
  rcases ziE ds with rfl|⟨a,x,rfl⟩
  ·simp at hl
  ·obtain⟨i,hi,he⟩:=zhN hs k a (by simpa using hl) fun d hd=>h d (by simp[hd])
   have hx:=h x (by simp)
   have hxn:x.toNat<s:=by omega
   have h1:(s*i+x.toNat) / s=i:=by rw[Nat.mul_add_div hs,Nat.div_eq_of_lt hxn,Nat.add_zero]
   have h2:(s*i+x.toNat) % s=x.toNat:=by rw[Nat.mul_add_mod,Nat.mod_eq_of_lt hxn]
   refine⟨s*i+x.toNat,?_,?_⟩
   ·rw[Nat.pow_succ,Nat.mul_comm (s^k) s]
    have:s*(i+1)≤s*s^k:=Nat.mul_le_mul_left _ hi
    rw[Nat.mul_add]at this
    omega
   ·rw[zbO,h1,h2,he]
    congr 2
    omega
def zhh (S:Nat)(mem:Pd→List Int→Bool):List Pd→List Bool
 |[]=>[]
 |p::ps=>(List.range (zqv S p)).map (fun k=>mem p (zbO S p.arity.toNat k))++zhh S mem ps
theorem zjH (S:Nat)(mem:Pd→List Int→Bool):∀ps:List Pd,(zhh S mem ps).length=za4 S ps
 |[]=>rfl
 |p::ps=>by rw[zhh,List.length_append,List.length_map,List.length_range,zjH S mem ps,za4]
def zln (S:Nat)(mem:Pd→List Int→Bool)(p:Pd):zeT:=⟨p.name,p.arity,((List.range (S^p.arity.toNat)).filter fun k=>mem p (zbO S p.arity.toNat k)).map (zbO S p.arity.toNat)⟩
theorem zuX (S:Nat)(mem:Pd→List Int→Bool):∀ps:List Pd,zfF S ps (zhh S mem ps)=ps.map (zln S mem)
 |[]=>rfl
 |p::ps=>by
  have hl:((List.range (zqv S p)).map (fun k=>mem p (zbO S p.arity.toNat k))).length=zqv S p:=by rw[List.length_map,List.length_range]
  rw[zfF,zhh,List.map_cons]
  congr 1
  ·unfold zln zsz
   congr 2
   refine List.filter_congr fun k hk=>?_
   have hk2:k<S^p.arity.toNat:=List.mem_range.1 hk
   rw[List.getD_eq_getElem?_getD,List.getElem?_append_left (by rw[hl];exact hk2),List.getElem?_map,List.getElem?_range (show k<zqv S p from hk2)]
   rfl
  ·rw[List.drop_append_of_le_length (by rw[hl];exact Nat.le_refl _),List.drop_of_length_le (by rw[hl];exact Nat.le_refl _),List.nil_append,zuX S mem ps]
theorem zw0 {S:Nat}(hs:0<S)(names:List Str)(ps:List Pd)(val:Str→Nat)(hv:∀w∈names,val w<S)(mem:Pd→List Int→Bool):∃n,n<S^names.length*2^za4 S ps∧zc5 names ps S n=⟨S,names.map fun w=>⟨w,(val w:Int)⟩,ps.map (zln S mem)⟩:=by
 obtain⟨q,hq,he⟩:=zhN hs names.length (names.map fun w=>(val w:Int)) (List.length_map _) (fun d hd=>by
  obtain⟨w,hw,rfl⟩:=List.mem_map.1 hd
  have:=hv w hw
  omega)
 obtain⟨r,hr,he2⟩:=zhN (s:=2) (by decide) (za4 S ps) ((zhh S mem ps).map fun b=>if b then 1 else 0) (by rw[List.length_map,zjH]) (fun d hd=>by
  obtain⟨b,_,rfl⟩:=List.mem_map.1 hd
  cases b<;>simp)
 obtain⟨K,hK⟩:∃K,2^za4 S ps=K:=⟨_,rfl⟩
 have hK0:0<K:=by rw[←hK];exact Nat.pow_pos (by decide)
 rw[hK]at hr
 have h1:(K*q+r) / K=q:=by rw[Nat.mul_add_div hK0,Nat.div_eq_of_lt hr,Nat.add_zero]
 have h2:(K*q+r) % K=r:=by rw[Nat.mul_add_mod,Nat.mod_eq_of_lt hr]
 refine⟨K*q+r,?_,?_⟩
 ·rw[hK,Nat.mul_comm (S^names.length) K]
  have:K*(q+1)≤K*S^names.length:=Nat.mul_le_mul_left _ hq
  rw[Nat.mul_add]at this
  omega
 ·unfold zc5
  rw[hK,h1,he]
  congr 1
  ·clear he hq hv
   induction names with
   |nil=>rfl
   |cons x l ih=>simp[ih]
  ·have h3:ztf (za4 S ps) (K*q+r)=zhh S mem ps:=by
    unfold ztf
    rw[←zmA (by decide) (za4 S ps) (K*q+r),hK,h2,he2,List.map_map]
    conv=>rhs;rw[←List.map_id (zhh S mem ps)]
    refine List.map_congr_left fun b _=>?_
    cases b<;>simp
   rw[h3,zuX]
def dd:List Str→List Str
 |[]=>[]
 |x::l=>if x∈dd l then dd l else x::dd l
theorem zuB:∀{l:List Str} {x:Str},x∈l→x∈dd l
 |[],_,h=>h
 |y::l,x,h=>by
  rw[dd]
  rcases List.mem_cons.1 h with rfl|h
  ·split
   ·assumption
   ·simp
  ·split
   ·exact zuB h
   ·exact List.mem_cons_of_mem _ (zuB h)
theorem zyD:∀l:List Str,(dd l).length≤l.length
 |[]=>Nat.le_refl _
 |y::l=>by
  have:=zyD l
  rw[dd,List.length_cons]
  split
  ·omega
  ·rw[List.length_cons];omega
theorem zz4 {l:List Str}{a b:Str}(ha:a∈l)(hb:b∈l)(h:l.idxOf a=l.idxOf b):a=b:=by
 have h1:=List.getElem_idxOf (List.idxOf_lt_length_of_mem ha)
 have h2:=List.getElem_idxOf (List.idxOf_lt_length_of_mem hb)
 rw[←h1,←h2]
 simp only[h]
theorem zw4 {β:Type}{ns:List Str}{g:Str→β}{nm:β→Str}(hg:∀w,nm (g w)=w){x:Str}(hx:x∈ns):(ns.map g).find? (fun c=>decide (nm c=x))=some (g x):=by
 induction ns with
 |nil=>simp at hx
 |cons y ns ih=>
  rw[List.map_cons,List.find?_cons]
  by_cases e:y=x
  ·subst e;simp[hg]
  ·simp only[hg,e,decide_false]
   rcases List.mem_cons.1 hx with h|h
   ·exact absurd h.symm e
   ·exact ih h
theorem zma {ns:List Str}{ps:List Pd}{l l0:List zab}(he:zBe (okH ns ps) l0 l):∃S,1≤S∧S≤ns.length+(if ns=[]then 1 else 0)∧∃n,n<S^ns.length*2^za4 S ps∧zyX ns ps l (zc5 ns ps S n):=by
 obtain⟨R,hR⟩:∃R,dd (ns.map (zaM (zfE l)))=R:=⟨_,rfl⟩
 have hRl:R.length≤ns.length:=by rw[←hR];have:=zyD (ns.map (zaM (zfE l)));simpa using this
 have hmem:∀w∈ns,zaM (zfE l) w∈R:=fun w hw=>by rw[←hR];exact zuB (List.mem_map_of_mem hw)
 obtain⟨S,hS⟩:∃S,S=if ns=[]then 1 else R.length:=⟨_,rfl⟩
 have hS1:1≤S:=by
  rw[hS]
  split
  ·omega
  ·rename_i h
   obtain⟨w,hw⟩:=List.exists_mem_of_ne_nil ns h
   exact List.length_pos_of_mem (hmem w hw)
 obtain⟨val,hval⟩:∃val:Str→Nat,val=fun w=>R.idxOf (zaM (zfE l) w):=⟨_,rfl⟩
 have hvS:∀w∈ns,val w<S:=fun w hw=>by
  rw[hval,hS,if_neg (fun e=>by rw[e]at hw;simp at hw)]
  exact List.idxOf_lt_length_of_mem (hmem w hw)
 obtain⟨mem,hmm⟩:∃mem:Pd→List Int→Bool,mem=fun p t=>l.any fun h=>decide (h.kind=2∧h.name=p.name∧h.words.map (fun w=>(val w:Int))=t):=⟨_,rfl⟩
 obtain⟨n,hn,hf⟩:=zw0 (by omega) ns ps val hvS mem
 have hw:∀x∈ns,za1 (zc5 ns ps S n) [] x=(val x:Int):=fun x hx=>by
  show ze2 (zc5 ns ps S n) x=_
  unfold ze2 zoL
  rw[hf]
  simp only
  rw[zw4 (g:=fun w=>(⟨w,(val w:Int)⟩:zaH)) (nm:=zaH.name) (fun _=>rfl) hx]
 have hvi:∀x∈ns,∀y∈ns,(val x=val y↔zaM (zfE l) x=zaM (zfE l) y):=fun x hx y hy=>by
  rw[hval]
  exact⟨fun h=>zz4 (hmem x hx) (hmem y hy) h,fun h=>by simp only[h]⟩
 refine⟨S,hS1,?_,n,hn,?_⟩
 ·rw[hS]
  by_cases h:ns=[]
  ·rw[if_pos h,if_pos h];omega
  ·rw[if_neg h,if_neg h];omega
 refine⟨fun x hx y hy=>?_,fun nm ws hws hp=>?_⟩
 ·rw[hw x hx,hw y hy]
  exact⟨fun h=>(hvi x hx y hy).1 (by omega),fun h=>by rw[(hvi x hx y hy).2 h]⟩
 ·have hwm:ws.map (za1 (zc5 ns ps S n) [])=ws.map (fun w=>(val w:Int)):=List.map_congr_left fun x hx=>hw x (hws x hx)
  have hfr:zi8 (zc5 ns ps S n) nm ws.length=(zln S mem ⟨nm,ws.length⟩).tuples:=by
   unfold zi8 zkP
   rw[hf]
   simp only
   cases h:(ps.map (zln S mem)).find? (fun r=>decide (r.name=nm∧r.arity=(ws.length:Int)))with
   |none=>
    rw[List.find?_eq_none]at h
    exact absurd (h (zln S mem ⟨nm,ws.length⟩) (List.mem_map_of_mem hp)) (by unfold zln;simp)
   |some r=>
    simp only
    have h1:=List.find?_some h
    obtain⟨p,hp2,rfl⟩:=List.mem_map.1 (List.mem_of_find?_eq_some h)
    rw[decide_eq_true_eq]at h1
    have e:p=⟨nm,ws.length⟩:=by
     obtain⟨a,b⟩:=p
     obtain⟨h2,h3⟩:=h1
     have h2:a=nm:=h2
     have h3:b=(ws.length:Int):=h3
     rw[h2,h3]
    rw[e]
  have hin:∀t:List Int,t.length=ws.length→(∀d∈t,0≤d∧d<(S:Int))→(t∈(zln S mem ⟨nm,ws.length⟩).tuples↔mem ⟨nm,ws.length⟩ t=true):=fun t ht hd=>by
   unfold zln
   simp only[Int.toNat_natCast]
   rw[List.mem_map]
   constructor
   ·rintro⟨k,hk,rfl⟩
    exact(List.mem_filter.1 hk).2
   ·intro h
    obtain⟨i,hi,e⟩:=zhN (by omega) ws.length t ht hd
    exact⟨i,List.mem_filter.2 ⟨List.mem_range.2 hi,by rw[e];exact h⟩,e⟩
  rw[hwm,hfr,hin _ (by rw[List.length_map]) (fun d hd=>by
   obtain⟨w,hw2,rfl⟩:=List.mem_map.1 hd
   have:=hvS w (hws w hw2)
   omega)]
  rw[hmm]
  simp only[List.any_eq_true,decide_eq_true_eq]
  have key:∀h∈l,h.kind=2→h.words.length=ws.length→(h.words.map (fun w=>(val w:Int))=ws.map (fun w=>(val w:Int))↔h.words.map (zaM (zfE l))=ws.map (zaM (zfE l))):=fun h hh _ hl=>by
   have hhw:∀w∈h.words,w∈ns:=fun w hw2=>(he.p h hh).c w (zdL hw2)
   clear hwm hfr hin hp
   generalize h.words=us at hl hhw
   induction us generalizing ws with
   |nil=>
    have:ws=[]:=List.eq_nil_of_length_eq_zero hl.symm
    subst this
    exact Iff.intro (fun _=>rfl) fun _=>rfl
   |cons u us ih=>
    cases ws with
    |nil=>simp at hl
    |cons w ws=>
     have h1:=hvi u (hhw u (by simp)) w (hws w (by simp))
     have h2:=ih ws (fun x hx=>hws x (by simp[hx])) (by simpa using hl) fun x hx=>hhw x (by simp[hx])
     rw[List.map_cons,List.map_cons,List.map_cons,List.map_cons,List.cons.injEq,List.cons.injEq]
     constructor
     ·rintro⟨h3,h4⟩;exact⟨h1.1 (by omega),h2.1 h4⟩
     ·rintro⟨h3,h4⟩;exact⟨by rw[h1.2 h3],h2.2 h4⟩
  constructor
  ·rintro⟨h,hh,q1,q2,q3⟩
   refine⟨h,hh,q1,q2,(key h hh q1 ?_).1 q3⟩
   have:=congrArg List.length q3
   simpa using this
  ·rintro⟨h,hh,q1,q2,q3⟩
   refine⟨h,hh,q1,q2,(key h hh q1 ?_).2 q3⟩
   have:=congrArg List.length q3
   simpa using this
theorem zjS {l:List zab}{m:zaB}:∀{left k:Nat},ziu l k left=(m,false,⟨0,0⟩)→∀i,k≤i→i<k+left→zcA l i=some []
 |0,k,_,i,h1,h2=>by omega
 |left+1,k,h,i,h1,h2=>by
  rw[ziu]at h
  cases hm:zcA l k with
  |none=>rw[hm]at h;simp at h
  |some ms=>
   rw[hm]at h
   cases ms with
   |nil=>
    rcases Nat.lt_or_ge k i with h3|h3
    ·exact zjS (left:=left) (k:=k+1) h i h3 (by omega)
    ·obtain rfl:i=k:=by omega
     exact hm
   |cons x ms=>simp at h
theorem zt3 {l:List zab}{size:Int}{m:zaB}(h:zgQ l size=(m,false,⟨0,0⟩)):(zb1 l size).code=0∧∀i:Nat,1≤i→(i:Int)≤size→zcA l i=some []:=by
 unfold zgQ at h
 split at h
 ·rename_i h0
  simp only[Prod.mk.injEq,true_and]at h
  rw[h.2]at h0
  simp at h0
 ·rename_i h0
  exact⟨Decidable.not_not.1 h0,fun i h1 h2=>zjS h i h1 (by omega)⟩
theorem zDF {f:zab}{l:List zab}{m:zaB}(hn:(zaL [zbD f]).length≤3)(h:zgQ [zbD f] 3=(m,false,⟨0,0⟩))(he:zBe (okH (zaL [zbD f]) (zhK [zbD f])) [zbD f] l):False:=by
 obtain⟨h0,h1⟩:=zt3 h
 obtain⟨_,hll,hlv,_,_⟩:=zgf h0
 obtain⟨S,hS1,hS2,n,hn2,hmb⟩:=zma he
 have hS3:S≤3:=by
  split at hS2
  ·rename_i e;rw[e]at hS2;simp at hS2;omega
  ·omega
 have hm:=h1 S hS1 (by omega)
 have ht:=zqb he hmb _ _ (Nat.le_refl _) (he.s (zbD f) (by simp))
 unfold zcA at hm
 cases hc:zlV [zbD f] S with
 |none=>rw[hc]at hm;cases hm
 |some c=>
  rw[hc]at hm
  have hm2:zei [zbD f] S c=[]:=Option.some.inj hm
  have hcc:=(zfq hS1 hc).1
  have h3:zxB [zbD f] S n∈zei [zbD f] S c:=by
   unfold zei
   refine List.mem_filter.2 ⟨List.mem_map_of_mem (List.mem_range.2 (by rw[hcc];exact hn2)),?_⟩
   unfold okF
   rw[List.all_eq_true]
   intro g hg
   rw[List.mem_singleton.1 hg]
   exact ht
  rw[hm2]at h3
  simp at h3
end Go.Abs
