/- several texts of this proof in one; no conditions -/
import Derived.Test.YtkkffhphodngkaaDoorTB
import Derived.Test.YtkkffhphodngkaaDoorPV
import Derived.Test.YtkkffhphodngkaaDoorST
import Derived.Test.YtkkffhphodngkaaDoorPW
import Derived.Test.YtkkffhphodngkaaDoorAE
import Derived.Test.YtkkffhphodngkaaDoorVP
set_option linter.unusedSimpArgs false
namespace Go.Abs
open Go
structure Pd where
 name:Str
 arity:Int
 deriving DecidableEq
instance:Inhabited Pd:=⟨⟨⟨[]⟩,0⟩⟩
instance:Enc Pd:=⟨fun c=> .agg [.s c.name.l,.i .i64 c.arity],fun x=>match x with| .agg [.s a,.i _ n]=>⟨⟨a⟩,n⟩|_=>default,fun c=>by cases c;rfl⟩
@[go_sem] theorem zDq {c:Pd}:enc c= .agg [.s c.name.l,.i .i64 c.arity]:=rfl
instance:Kc Pd 2:=⟨fun _=>rfl⟩
def ltP (a b:Pd):Prop:=a.name.l<b.name.l∨(a.name=b.name∧a.arity<b.arity)
instance (a b:Pd):Decidable (ltP a b):=by unfold ltP;exact inferInstance
theorem zeD {a:Pd}:¬ltP a a:=fun h=>by
 rcases h with h|⟨_,h⟩
 ·exact zd6 h
 ·omega
theorem zfu {a b c:Pd}(h:ltP a b)(h2:ltP b c):ltP a c:=by
 rcases h with h|⟨e,h⟩<;>rcases h2 with h2|⟨e2,h2⟩
 ·exact .inl (zm4 h h2)
 ·exact .inl (e2▸h)
 ·exact .inl (e▸h2)
 ·exact .inr ⟨e.trans e2,by omega⟩
theorem zmB {a b:Pd}(h:¬ltP a b)(h2:a≠b):ltP b a:=by
 by_cases hn:a.name=b.name
 ·refine .inr ⟨hn.symm,?_⟩
  have h3:¬a.arity<b.arity:=fun h3=>h (.inr ⟨hn,h3⟩)
  have h4:a.arity≠b.arity:=fun e=>h2 (by cases a;cases b;simp_all)
  omega
 ·exact .inl (zxH (fun h3=>h (.inl h3)) (zzq hn))
def ztS (l:List Pd):Prop:=l.Pairwise ltP
theorem zoa:∀{a b:List Pd},ztS a→ztS b→(∀x,x∈a↔x∈b)→a=b
 |[],[],_,_,_=>rfl
 |[],y::b,_,_,h=>absurd ((h y).2 (by simp)) (by simp)
 |x::a,[],_,_,h=>absurd ((h x).1 (by simp)) (by simp)
 |x::a,y::b,ha,hb,h=>by
  have ha':=List.pairwise_cons.1 ha
  have hb':=List.pairwise_cons.1 hb
  have e:x=y:=by
   refine Classical.byContradiction fun hne=>?_
   have h1:x∈b:=by
    rcases List.mem_cons.1 ((h x).1 (by simp))with h1|h1
    ·exact absurd h1 hne
    ·exact h1
   have h2:y∈a:=by
    rcases List.mem_cons.1 ((h y).2 (by simp))with h2|h2
    ·exact absurd h2.symm hne
    ·exact h2
   exact zeD (zfu (ha'.1 y h2) (hb'.1 x h1))
  subst e
  rw[zoa ha'.2 hb'.2 fun z=>?_]
  have hz:=h z
  simp only[List.mem_cons]at hz
  constructor
  ·intro hza
   rcases hz.1 (.inr hza)with e|h1
   ·rw[e]at hza;exact absurd (ha'.1 x hza) zeD
   ·exact h1
  ·intro hzb
   rcases hz.2 (.inr hzb)with e|h1
   ·rw[e]at hzb;exact absurd (hb'.1 x hzb) zeD
   ·exact h1
mutual
def pds:zac→List Pd
 | .mk k nm ws s=>(if k=2 then[⟨nm,(ws.length:Int)⟩]else[])++zdp s
def zdp:List zac→List Pd
 |[]=>[]
 |f::fs=>pds f++zdp fs
end
theorem zgN {x:Pd}:∀{l:List zac},x∈zdp l↔∃f∈l,x∈pds f
 |[]=>by simp[zdp]
 |f::fs=>by rw[zdp,List.mem_append,zgN (l:=fs)];simp
def zk5:List Pd→Pd→List Pd
 |[],p=>[p]
 |x::l,p=>if ltP x p then x::zk5 l p else if x=p then x::l else p::x::l
theorem zjG {x p:Pd}:∀{l:List Pd},x∈zk5 l p↔x∈l∨x=p
 |[]=>by simp[zk5]
 |y::l=>by
  rw[zk5]
  split
  ·rw[List.mem_cons,zjG (l:=l),List.mem_cons,or_assoc]
  ·split
   ·rename_i e;subst e
    constructor
    ·exact .inl
    ·rintro(h|rfl)
     ·exact h
     ·simp
   ·simp only[List.mem_cons]
    constructor
    ·rintro(h|h|h)
     ·exact .inr h
     ·exact .inl (.inl h)
     ·exact .inl (.inr h)
    ·rintro((h|h)|h)
     ·exact .inr (.inl h)
     ·exact .inr (.inr h)
     ·exact .inl h
theorem znI {p:Pd}:∀{l:List Pd},ztS l→ztS (zk5 l p)
 |[],_=>by simp[zk5,ztS]
 |y::l,h=>by
  have h':=List.pairwise_cons.1 h
  rw[zk5]
  split
  ·rename_i hy
   refine List.pairwise_cons.2 ⟨fun z hz=>?_,znI h'.2⟩
   rcases zjG.1 hz with hz|rfl
   ·exact h'.1 z hz
   ·exact hy
  ·split
   ·exact h
   ·rename_i h1 h2
    have h3:=zmB h1 h2
    refine List.pairwise_cons.2 ⟨fun z hz=>?_,h⟩
    rcases List.mem_cons.1 hz with rfl|hz
    ·exact h3
    ·exact zfu h3 (h'.1 z hz)
def zxq (l:List Pd)(ps:List Pd):List Pd:=ps.foldl zk5 l
def zgr (fs:List zac):List Pd:=zxq [] (zdp fs)
theorem zn6:∀(ps l:List Pd),ztS l→ztS (zxq l ps)
 |[],_,h=>h
 |p::ps,l,h=>zn6 ps (zk5 l p) (znI h)
theorem zn5 {x:Pd}:∀(ps l:List Pd),x∈zxq l ps↔x∈l∨x∈ps
 |[],l=>by simp[zxq]
 |p::ps,l=>by
  show x∈zxq (zk5 l p) ps↔_
  rw[zn5 ps (zk5 l p),zjG,List.mem_cons,or_assoc]
theorem zn7 (fs:List zac):ztS (zgr fs):=zn6 _ _ List.Pairwise.nil
theorem zfB {fs:List zac}{x:Pd}:x∈zgr fs↔∃f∈fs,x∈pds f:=by
 unfold zgr
 rw[zn5,zgN];simp
def zdg (l:List Pd)(p:Pd):List Pd:=if p∈l then l else l++[p]
def zdf (l:List Pd)(ps:List Pd):List Pd:=ps.foldl zdg l
theorem zou {l:List Pd}{p x:Pd}:x∈zdg l p↔x∈l∨x=p:=by
 unfold zdg
 split
 ·rename_i h
  constructor
  ·exact .inl
  ·rintro(h2|rfl)
   ·exact h2
   ·exact h
 ·simp
theorem zka {l:List Pd}{p:Pd}(h:l.Pairwise (· ≠·)):(zdg l p).Pairwise (· ≠·):=by
 unfold zdg
 split
 ·exact h
 ·rename_i hp
  rw[List.pairwise_append]
  refine⟨h,by simp,fun a ha b hb e=>?_⟩
  rw[List.mem_singleton.1 hb]at e
  exact hp (e▸ha)
theorem zh5 {x:Pd}:∀(ps l:List Pd),x∈zdf l ps↔x∈l∨x∈ps
 |[],l=>by simp[zdf]
 |p::ps,l=>by
  show x∈zdf (zdg l p) ps↔_
  rw[zh5 ps,zou,List.mem_cons,or_assoc]
theorem zh6:∀(ps l:List Pd),l.Pairwise (· ≠·)→(zdf l ps).Pairwise (· ≠·)
 |[],_,h=>h
 |_::ps,_,h=>zh6 ps _ (zka h)
theorem zfI:∀(ps l:List Pd),(zdf l ps).length≤l.length+ps.length
 |[],l=>by simp[zdf]
 |p::ps,l=>by
  show(zdf (zdg l p) ps).length≤_
  have h:=zfI ps (zdg l p)
  have h2:(zdg l p).length≤l.length+1:=by unfold zdg;split<;>simp
  simp only[List.length_cons];omega
theorem zpE {fs:List zac}{U S:List Pd}(hU:∀x,x∈U↔∃f∈fs,x∈pds f)(hn:U.Pairwise (· ≠·))(hp:S.Perm U)(hs:S.Pairwise fun a b=>¬ltP b a):S=zgr fs:=by
 refine zoa ?_ (zn7 fs) fun x=>?_
 ·have hn2:S.Pairwise (· ≠·):=(hp.pairwise_iff (fun{a b} h=>Ne.symm h)).2 hn
  refine List.Pairwise.imp₂ (fun a b h1 h2=>?_) hs hn2
  exact Classical.byContradiction fun h3=>h1 (zmB h3 h2)
 ·rw[hp.mem_iff,hU,zfB]
end Go.Abs
namespace Go.Abs
open Go
theorem znj:∀(a x y:List Int),zcM (a++x) (a++y)=zcM x y
 |[],_,_=>rfl
 |h::a,x,y=>by
  rw[List.cons_append,List.cons_append,zcM,if_neg (by rw[zea.2 rfl];simp),znj a x y]
theorem zni:∀{a b:List Int} (x y:List Int),a.length=b.length→zcM a b<0→zcM (a++x) (b++y)<0
 |[],[],_,_,_,h=>by simp[zcM]at h
 |[],_::_,_,_,hl,_=>by simp at hl
 |_::_,[],_,_,hl,_=>by simp at hl
 |p::a,q::b,x,y,hl,h=>by
  rw[List.cons_append,List.cons_append,zcM]
  rw[zcM]at h
  split
  ·rename_i hc;rw[if_pos hc]at h;exact h
  ·rename_i hc;rw[if_neg hc]at h;exact zni x y (by simpa using hl) h
theorem zqH {s:Nat}(hs:0<s):∀(k i j:Nat),i<j→j<s^k→zcM (zbq s k i) (zbq s k j)<0
 |0,i,j,h,hj=>by simp at hj;omega
 |k+1,i,j,h,hj=>by
  rw[zbq,zbq]
  by_cases hq:i / s=j / s
  ·rw[hq,znj,zcM,if_pos]
   ·rw[znh]
    have h1:=Nat.div_add_mod i s
    have h2:=Nat.div_add_mod j s
    rw[hq]at h1
    omega
   ·intro e
    rw[zea]at e
    have h1:=Nat.div_add_mod i s
    have h2:=Nat.div_add_mod j s
    rw[hq]at h1
    omega
  ·have h3:i / s<j / s:=Nat.lt_of_le_of_ne (Nat.div_le_div_right (Nat.le_of_lt h)) hq
   refine zni _ _ (by rw[zbN,zbN]) (zqH hs k _ _ h3 ?_)
   rw[Nat.pow_succ]at hj
   exact Nat.div_lt_of_lt_mul (by rw[Nat.mul_comm];exact hj)
def zgE:List Nat→Nat
 |[]=>1
 |t::ts=>t*zgE ts
theorem zln:∀(a b:List Nat),zgE (a++b)=zgE a*zgE b
 |[],b=>by simp[zgE]
 |x::a,b=>by rw[List.cons_append,zgE,zgE,zln a b,Nat.mul_assoc]
theorem zhN (s:Nat):∀c,zgE (List.replicate c s)=s^c
 |0=>rfl
 |c+1=>by rw[List.replicate_succ,zgE,zhN s c,Nat.pow_succ,Nat.mul_comm]
def zqo:Nat→List Nat→Option Nat
 |n,[]=>some n
 |n,t::ts=>if 8192<n*t then none else zqo (n*t) ts
theorem zkh:∀{ts:List Nat} {n r:Nat},(∀t∈ts,1≤t)→n≤8192→zqo n ts=some r→r=n*zgE ts∧r≤8192
 |[],n,r,_,hn,h=>by
  simp only[zqo,Option.some.injEq]at h
  subst h
  exact⟨by simp[zgE],hn⟩
 |t::ts,n,r,h1,hn,h=>by
  rw[zqo]at h
  split at h
  ·cases h
  ·rename_i h2
   obtain⟨h3,h4⟩:=zkh (fun x hx=>h1 x (by simp[hx])) (by omega) h
   exact⟨by rw[h3,zgE,Nat.mul_assoc],h4⟩
def zsn (size:Nat)(p:Pd):Nat:=size^p.arity.toNat
def zaV (size:Nat):List Pd→Nat
 |[]=>0
 |p::ps=>zsn size p+zaV size ps
def zj3 (size:Nat):List Pd→List Nat
 |[]=>[]
 |p::ps=>List.replicate (zsn size p) 2++zj3 size ps
def zrX (size c:Nat)(ps:List Pd):List Nat:=List.replicate c size++zj3 size ps
theorem zh2 (size:Nat):∀ps:List Pd,zj3 size ps=List.replicate (zaV size ps) 2
 |[]=>rfl
 |p::ps=>by rw[zj3,zaV,zh2 size ps,List.replicate_append_replicate]
theorem ztB {size:Nat}(h:1≤size)(p:Pd):1≤zsn size p:=Nat.pow_pos (by omega)
theorem zki {size:Nat}(h:1≤size):∀ps:List Pd,ps.length≤zaV size ps
 |[]=>Nat.le_refl _
 |p::ps=>by
  have h1:=zki h ps
  have h2:=ztB h p
  rw[zaV,List.length_cons];omega
theorem ztY {size c:Nat}{ps:List Pd}(h:1≤size):∀t∈zrX size c ps,1≤t:=fun t ht=>by
 unfold zrX at ht
 rw[zh2]at ht
 rcases List.mem_append.1 ht with ht|ht
 ·rw[(List.mem_replicate.1 ht).2];exact h
 ·rw[(List.mem_replicate.1 ht).2];omega
def zg9 (size c:Nat)(ps:List Pd):Option Nat:=zqo 1 (zrX size c ps)
theorem zex {size c:Nat}{ps:List Pd}{r:Nat}(h:1≤size)(hr:zg9 size c ps=some r):r=size^c*2^zaV size ps∧r≤8192∧zaV size ps≤13:=by
 obtain⟨h1,h2⟩:=zkh (ztY h) (by omega) hr
 unfold zrX at h1
 rw[zh2,zln,zhN,zhN,Nat.one_mul]at h1
 refine⟨h1,h2,?_⟩
 refine Classical.byContradiction fun hc=>?_
 have h3:2^14≤2^zaV size ps:=Nat.pow_le_pow_right (by omega) (by omega)
 have h4:1≤size^c:=Nat.pow_pos (by omega)
 have h5:1*2^14≤size^c*2^zaV size ps:=Nat.mul_le_mul h4 h3
 have h6:(2:Nat)^14=16384:=by decide
 omega
def zsE (cells n:Nat):List Bool:=(zbq 2 cells n).map fun d=>decide (d=1)
def zmU (size ar:Nat)(bits:List Bool):List (List Int):=((List.range (size^ar)).filter fun k=>bits.getD k false).map (zbq size ar)
def zfz (size:Nat):List Pd→List Bool→List zdc
 |[],_=>[]
 |p::ps,bits=>⟨p.name,p.arity,zmU size p.arity.toNat bits⟩::zfz size ps (bits.drop (zsn size p))
def zcC (names:List Str)(ps:List Pd)(size n:Nat):zal:=⟨size,List.zipWith zaB.mk names (zbq size names.length (n / 2^zaV size ps)),zfz size ps (zsE (zaV size ps) n)⟩
theorem zgO (size:Nat):∀(ps:List Pd) (bits:List Bool),(zfz size ps bits).map (fun r=>(⟨r.name,r.arity⟩:Pd))=ps
 |[],_=>rfl
 |p::ps,bits=>by rw[zfz,List.map_cons,zgO size ps]
theorem zhQ (size:Nat)(ps:List Pd)(bits:List Bool):(zfz size ps bits).length=ps.length:=by
 have h:=congrArg List.length (zgO size ps bits)
 simpa using h
theorem zhR {size:Nat}:∀{ps:List Pd} {bits:List Bool} {r:zdc},r∈zfz size ps bits→∃p∈ps,∃b,r=⟨p.name,p.arity,zmU size p.arity.toNat b⟩
 |[],_,r,h=>by simp[zfz]at h
 |p::ps,bits,r,h=>by
  rw[zfz]at h
  rcases List.mem_cons.1 h with rfl|h
  ·exact⟨p,by simp,_,rfl⟩
  ·obtain⟨q,hq,b,e⟩:=zhR h
   exact⟨q,by simp[hq],b,e⟩
theorem zok {size ar:Nat}{bits:List Bool}(hs:0<size):(zmU size ar bits).Pairwise fun a b=>zcM a b<0:=by
 unfold zmU
 rw[List.pairwise_map]
 refine List.Pairwise.filter _ ?_
 refine List.Pairwise.imp_of_mem (fun{a b} ha hb h=>?_) List.pairwise_lt_range
 exact zqH hs ar a b h (List.mem_range.1 hb)
theorem ztZ {size ar:Nat}{bits:List Bool}(hs:0<size){t:List Int}(h:t∈zmU size ar bits):t.length=ar∧∀v∈t,0≤v∧v<(size:Int):=by
 unfold zmU at h
 obtain⟨k,_,rfl⟩:=List.mem_map.1 h
 exact⟨zbN _ _ _,zfl hs ar k⟩
structure zwe (names:List Str)(ps:List Pd)(size:Nat):Prop where
 nm:zxr names
 pd:ztS ps
 ar:∀p∈ps,0≤p.arity∧p.arity≤3
 s1:1≤size
 s4:size≤4
 ln:names.length≤10000000
 lp:ps.length≤300
theorem zc3 (names:List Str)(ps:List Pd)(size n:Nat):(zcC names ps size n).consts.map (·.name)=names:=by
 show(List.zipWith zaB.mk names (zbq size names.length _)).map (·.name)=names
 have:=zeA (vars:=names) (l:=zbq size names.length (n / 2^zaV size ps)) (zbN _ _ _)
 exact this
theorem ztb {names:List Str}{ps:List Pd}{size n:Nat}{c:zaB}(hs:0<size)(h:c∈(zcC names ps size n).consts):0≤c.value∧c.value<(size:Int):=by
 have h2:c∈zgI names (zbq size names.length (n / 2^zaV size ps)):=h
 exact zfl hs _ _ _ (zfm h2)
theorem zkS {names:List Str}{ps:List Pd}{size n:Nat}(h:zwe names ps size):zrk (zcC names ps size n):=by
 have hc:(zcC names ps size n).consts.length=names.length:=by
  have:=congrArg List.length (zc3 names ps size n);simpa using this
 have hr:(zcC names ps size n).rels.length=ps.length:=zhQ _ _ _
 refine⟨fun i j hi hj hij=>?_,fun i j hi hj hij=>?_,fun r hr i j hi hj hij=>?_,by show(1:Int)≤(size:Int);have:=h.s1;omega,by show(size:Int)≤6;have:=h.s4;omega,by rw[hc];exact h.ln,by rw[hr];exact h.lp⟩
 ·have e1:∀k (hk:k<(zcC names ps size n).consts.length),(zcC names ps size n).consts[k].name=names[k]'(by rw[←hc];exact hk):=fun k hk=>by
   have:=List.getElem_of_eq (zc3 names ps size n) (i:=k) (by rw[List.length_map];exact hk)
   rw[←this,List.getElem_map]
  rw[e1 i hi,e1 j hj]
  exact(List.pairwise_iff_getElem.1 h.nm) i j _ _ hij
 ·have e1:∀k (hk:k<(zcC names ps size n).rels.length),(⟨(zcC names ps size n).rels[k].name,(zcC names ps size n).rels[k].arity⟩:Pd)=ps[k]'(by rw[←hr];exact hk):=fun k hk=>by
   have:=List.getElem_of_eq (zgO size ps (zsE (zaV size ps) n)) (i:=k) (by rw[List.length_map];exact hk)
   rw[←this,List.getElem_map];rfl
  have h2:=(List.pairwise_iff_getElem.1 h.pd) i j (by rw[←hr];exact hi) (by rw[←hr];exact hj) hij
  rw[←e1 i hi,←e1 j hj]at h2
  exact h2
 ·obtain⟨p,_,b,rfl⟩:=zhR hr
  exact(List.pairwise_iff_getElem.1 (zok (by have:=h.s1;omega))) i j hi hj hij
theorem zo8 {names:List Str}{ps:List Pd}{size n:Nat}{w:Str}(h:w∈names):(zcl (zcC names ps size n) w).isSome=true:=by
 unfold zcl
 rw[List.find?_isSome]
 rw[←zc3 names ps size n]at h
 obtain⟨c,hc,e⟩:=List.mem_map.1 h
 exact⟨c,hc,by simp[e]⟩
end Go.Abs
namespace Go.Abs
open Go
def okF (fs:List zac)(m:zal):Bool:=fs.all fun f=>zbU m f []
def zgD (fs:List zac)(size:Nat):Option Nat:=zg9 size (zbz fs).length (zgr fs)
def znR (fs:List zac)(size n:Nat):zal:=zcC (zbz fs) (zgr fs) size n
def zc6 (fs:List zac)(size n:Nat):List zal:=((List.range n).map (znR fs size)).filter (okF fs)
def zbk (fs:List zac)(size:Nat):Option (List zal):=(zgD fs size).map (zc6 fs size)
theorem ziJ (fs:List zac)(size n:Nat):zc6 fs size (n+1)=zc6 fs size n++(if okF fs (znR fs size n)=true then[znR fs size n]else[]):=by
 unfold zc6
 rw[List.range_succ,List.map_append,List.filter_append]
 congr 1
 simp only[List.map_cons,List.map_nil,List.filter_cons,List.filter_nil]
theorem zlf (fs:List zac)(size:Nat):∀n,(zc6 fs size n).length≤n:=fun n=>by
 unfold zc6
 refine Nat.le_trans (List.length_filter_le _ _) ?_
 simp
theorem zrj (fs:List zac)(size:Nat){n t:Nat}(h:n≤t):∃r,zc6 fs size t=zc6 fs size n++r:=by
 obtain⟨k,rfl⟩:=Nat.exists_eq_add_of_le h
 unfold zc6
 rw[List.range_add,List.map_append,List.filter_append]
 exact⟨_,rfl⟩
def zh8:zal:=⟨0,[],[]⟩
def zm2:List zac→Nat→zcV
 |[],_=>⟨0,0⟩
 |f::fs,i=>if(zaz false f).code≠0 then⟨(zaz false f).code,i⟩else if 5<zaY f then⟨17,i⟩else zm2 fs (i+1)
def zaK (fs:List zac)(size:Int):zcV:=if 41<fs.length then⟨2, -1⟩else if(zm2 fs 0).code≠0 then zm2 fs 0 else if size<1∨4<size then⟨3, -2⟩else⟨0,0⟩
theorem zkg:∀{fs:List zac} {i:Nat},(zm2 fs i).code=0→zm2 fs i=⟨0,0⟩∧∀f∈fs,(zaz false f).code=0∧zaY f≤5
 |[],i,_=>⟨rfl,by simp⟩
 |f::fs,i,h=>by
  rw[zm2]at h ⊢
  by_cases h1:(zaz false f).code=0
  ·rw[if_neg (by simp[h1])]at h ⊢
   by_cases h2:5<zaY f
   ·rw[if_pos h2]at h;simp at h
   ·rw[if_neg h2]at h ⊢
    obtain⟨h3,h4⟩:=zkg h
    refine⟨h3,fun g hg=>?_⟩
    rcases List.mem_cons.1 hg with rfl|hg
    ·exact⟨h1,by omega⟩
    ·exact h4 g hg
  ·rw[if_pos h1]at h;exact absurd h h1
theorem zej {fs:List zac}{size:Int}(h:(zaK fs size).code=0):zaK fs size=⟨0,0⟩∧fs.length≤41∧(∀f∈fs,(zaz false f).code=0∧zaY f≤5)∧1≤size∧size≤4:=by
 unfold zaK at h ⊢
 by_cases h1:41<fs.length
 ·rw[if_pos h1]at h;exact absurd h (by decide)
 rw[if_neg h1]at h ⊢
 by_cases h2:(zm2 fs 0).code=0
 rotate_left
 ·rw[if_pos h2]at h;exact absurd h h2
 rw[if_neg (by simp[h2])]at h ⊢
 by_cases h3:size<1∨4<size
 ·rw[if_pos h3]at h;exact absurd h (by decide)
 rw[if_neg h3]
 exact⟨rfl,by omega,(zkg h2).2,by omega,by omega⟩
def zeP (fs:List zac)(size:Int):Int×zcV:=
 if(zaK fs size).code≠0 then(0,zaK fs size)else match zbk fs size.toNat with
 |none=>(0,⟨17, -2⟩)
 |some l=>((l.length:Int),⟨0,0⟩)
def zho (fs:List zac):Nat→Nat→zal×Bool×zcV
 |_,0=>(zh8,false,⟨0,0⟩)
 |k,left+1=>match zbk fs k with
  |none=>(zh8,false,⟨17, -2⟩)
  |some []=>zho fs (k+1) left
  |some (m::_)=>(m,true,⟨0,0⟩)
def zih (fs:List zac)(size:Int):zal×Bool×zcV:=
 if(zaK fs size).code≠0 then(zh8,false,zaK fs size)else zho fs 1 size.toNat
end Go.Abs
namespace Go.Abs
open Go
theorem zCI {l:List zac}{w:Str}:w∈zbz l↔∃f∈l,w∈cst f []:=by
 unfold zbz
 constructor
 ·intro h
  obtain⟨x,hx,rfl⟩:=List.mem_map.1 h
  have h2:=(zdH _).mem_iff.1 ((zhz _ _).1 hx)
  obtain⟨y,hy,rfl⟩:=List.mem_map.1 h2
  obtain⟨f,hf,h3⟩:=List.mem_flatMap.1 hy
  exact⟨f,hf,(zdF f _).1 h3⟩
 ·rintro⟨f,hf,hw⟩
  refine List.mem_map.2 ⟨w.l,(zhz _ _).2 ((zdH _).mem_iff.2 (List.mem_map.2 ⟨w,List.mem_flatMap.2 ⟨f,hf,(zdF f w).2 hw⟩,rfl⟩)),rfl⟩
theorem ziM (l:List zac):zxr (zbz l):=ztT _
theorem znA:∀{l:List zac},(∀f∈l,f.fit=true∧f.size≤200)→(l.flatMap zbv).length≤l.length*200000
 |[],_=>by simp
 |f::l,h=>by
  rw[List.flatMap_cons,List.length_append,List.length_cons]
  have h1:=znA fun g hg=>h g (List.mem_cons_of_mem _ hg)
  have h2:=h f (by simp)
  have h3:=zfX f [] h2.1
  have h4:=zfJ f
  omega
theorem zvi {l:List zac}(h:∀f∈l,(zaz false f).code=0):∀f∈l,f.fit=true∧f.size≤200:=fun f hf=>⟨zb1 (h f hf),zaZ (h f hf)⟩
theorem ziL {l:List zac}(h:∀f∈l,(zaz false f).code=0)(hl:l.length≤41):(zbz l).length≤10000000:=by
 have h1:=znA (zvi h)
 unfold zbz
 rw[List.length_map]
 refine Nat.le_trans (zfh _) ?_
 rw[zfE,List.length_map]
 omega
mutual
theorem znV:∀(f:zac),vok f→∀p∈pds f,0≤p.arity∧p.arity≤3
 | .mk k nm ws s,h,p,hp=>by
  rw[vok]at h
  rw[pds]at hp
  rcases List.mem_append.1 hp with hp|hp
  ·split at hp
   ·rename_i hk
    have:=h.2.2.1 hk
    rw[List.mem_singleton.1 hp]
    exact⟨by simp only;omega,by simp only;omega⟩
   ·simp at hp
  ·exact zru s h.2.2.2.2.2.2 p hp
theorem zru:∀(fs:List zac),zj7 fs→∀p∈zdp fs,0≤p.arity∧p.arity≤3
 |[],_,p,hp=>by simp[zdp]at hp
 |f::fs,h,p,hp=>by
  rw[zj7]at h
  rw[zdp]at hp
  rcases List.mem_append.1 hp with hp|hp
  ·exact znV f h.1 p hp
  ·exact zru fs h.2 p hp
end
theorem zzp {fs:List zac}(hv:∀f∈fs,(zaz false f).code=0):∀p∈zgr fs,0≤p.arity∧p.arity≤3:=fun p hp=>by
 obtain⟨f,hf,h⟩:=zfB.1 hp
 exact znV f (zdz (hv f hf)) p h
theorem zuE {fs:List zac}{size n:Nat}(hv:∀f∈fs,(zaz false f).code=0)(hl:fs.length≤41)(h1:1≤size)(h4:size≤4)(hn:zgD fs size=some n):zwe (zbz fs) (zgr fs) size:=by
 obtain⟨_,_,h3⟩:=zex h1 hn
 have h5:=zki h1 (zgr fs)
 exact⟨ziM fs,zn7 fs,zzp hv,h1,h4,ziL hv hl,by omega⟩
end Go.Abs
namespace Go.Abs
open Go
mutual
theorem znW:∀(f:zac),shp false f→∀p∈pds f,zaq p.name=true
 | .mk k nm ws s,h,p,hp=>by
  rw[shp]at h
  rw[pds]at hp
  rcases List.mem_append.1 hp with hp|hp
  ·split at hp
   ·rename_i hk
    rw[List.mem_singleton.1 hp]
    subst hk
    exact h.1.2.2.1 rfl (by unfold isQ;show¬((2:Int)=8∨(2:Int)=9);omega)
   ·simp at hp
  ·exact zlm s h.2 p hp
theorem zlm:∀(fs:List zac),zer false fs→∀p∈zdp fs,zaq p.name=true
 |[],_,p,hp=>by simp[zdp]at hp
 |f::fs,h,p,hp=>by
  rw[zer]at h
  rw[zdp]at hp
  rcases List.mem_append.1 hp with hp|hp
  ·exact znW f h.1 p hp
  ·exact zlm fs h.2 p hp
end
theorem ztQ {fs:List zac}(hv:∀f∈fs,(zaz false f).code=0):∀p∈zgr fs,zaq p.name=true:=fun p hp=>by
 obtain⟨f,hf,h⟩:=zfB.1 hp
 exact znW f (ziu (hv f hf)) p h
theorem zpk {fs:List zac}(hv:∀f∈fs,(zaz false f).code=0):∀w∈zbz fs,zaq w=true:=fun w hw=>by
 obtain⟨f,hf,h⟩:=zCI.1 hw
 exact zjj (p:=fun w=>zaq w=true) f [] w (zhd (hv f hf)) h
theorem zn1 {size:Int}:∀(cs:List zaB) (p:Option zaB) (i:Nat),(∀c∈cs,zaq c.name=true∧0≤c.value∧c.value<size)→(cs.Pairwise fun a b=>a.name.l<b.name.l)→(∀q,p=some q→∀c∈cs,q.name.l<c.name.l)→zjY size p cs i=⟨0,0⟩
 |[],_,_,_,_,_=>rfl
 |c::cs,p,i,h1,h2,h3=>by
  have hc:=h1 c (by simp)
  have h2':=List.pairwise_cons.1 h2
  have e:zb2 size p c=0:=by
   unfold zb2
   rw[if_neg (by simp[hc.1]),if_neg,if_neg (by omega)]
   cases p with
   |none=>simp
   |some q=>simpa using h3 q rfl c (by simp)
  rw[zjY,if_neg (by simp[e]),zn1 cs (some c) (i+1) (fun x hx=>h1 x (by simp[hx])) h2'.2 (fun q hq x hx=>by rw[←Option.some.inj hq];exact h2'.1 x hx)]
theorem zn3 {size ar:Int}:∀(ts:List (List Int)) (p:Option (List Int)),(∀t∈ts,(t.length:Int)=ar∧∀v∈t,0≤v∧v<size)→(ts.Pairwise fun a b=>zcM a b<0)→(∀q,p=some q→∀t∈ts,zcM q t<0)→zlx size ar p ts=0
 |[],_,_,_,_=>rfl
 |t::ts,p,h1,h2,h3=>by
  have ht:=h1 t (by simp)
  have h2':=List.pairwise_cons.1 h2
  have e:zeT size ar p t=0:=by
   unfold zeT
   rw[if_neg (by simp[ht.1]),if_neg,if_neg]
   ·cases p with
    |none=>simp
    |some q=>have:=h3 q rfl t (by simp);simp;omega
   ·rw[Bool.not_eq_true,List.any_eq_false]
    intro v hv
    have:=ht.2 v hv
    simp;omega
  rw[zlx,if_neg (by simp[e]),zn3 ts (some t) (fun x hx=>h1 x (by simp[hx])) h2'.2 (fun q hq x hx=>by rw[←Option.some.inj hq];exact h2'.1 x hx)]
theorem zn2 {size:Int}:∀(rs:List zdc) (p:Option zdc) (i:Nat),(∀r∈rs,zaq r.name=true∧0≤r.arity∧r.arity≤3∧zlx size r.arity none r.tuples=0)→(rs.Pairwise ltR)→(∀q,p=some q→∀r∈rs,ltR q r)→zlw size p rs i=⟨0,0⟩
 |[],_,_,_,_,_=>rfl
 |r::rs,p,i,h1,h2,h3=>by
  have hr:=h1 r (by simp)
  have h2':=List.pairwise_cons.1 h2
  have e:zia size p r=0:=by
   unfold zia
   rw[if_neg (by simp[hr.1]),if_neg (by omega),if_neg,hr.2.2.2]
   cases p with
   |none=>simp
   |some q=>have:=zgH.2 (h3 q rfl r (by simp));simp;omega
  rw[zlw,if_neg (by simp[e]),zn2 rs (some r) (i+1) (fun x hx=>h1 x (by simp[hx])) h2'.2 (fun q hq x hx=>by rw[←Option.some.inj hq];exact h2'.1 x hx)]
theorem zkR (names:List Str)(ps:List Pd)(size n:Nat):(zcC names ps size n).consts.length=names.length:=by
 have:=congrArg List.length (zc3 names ps size n);simpa using this
theorem zqT (names:List Str)(ps:List Pd)(size n:Nat):(zcC names ps size n).rels.length=ps.length:=zhQ _ _ _
theorem zo7 {names:List Str}{ps:List Pd}{size n:Nat}(h:zwe names ps size)(h1:∀w∈names,zaq w=true)(h2:∀p∈ps,zaq p.name=true)(h3:names.length≤300)(h4:ps.length≤300):za9 (zcC names ps size n)=⟨0,0⟩:=by
 have hm:=zkS (n:=n) h
 have hs:0<size:=by have:=h.s1;omega
 have e1:zjY (zcC names ps size n).size none (zcC names ps size n).consts 0=⟨0,0⟩:=by
  refine zn1 _ _ _ (fun c hc=>⟨?_,ztb hs hc⟩) ?_ (fun q hq=>by cases hq)
  ·refine h1 _ ?_
   rw[←zc3 names ps size n]
   exact List.mem_map_of_mem hc
  ·exact List.pairwise_iff_getElem.2 fun i j hi hj hij=>hm.c i j hi hj hij
 have e2:zlw (zcC names ps size n).size none (zcC names ps size n).rels 0=⟨0,0⟩:=by
  refine zn2 _ _ _ (fun r hr=>?_) ?_ (fun q hq=>by cases hq)
  ·obtain⟨p,hp,b,rfl⟩:=zhR hr
   have ha:=h.ar p hp
   refine⟨h2 p hp,ha.1,ha.2,zn3 _ _ (fun t ht=>?_) (zok hs) (fun q hq=>by cases hq)⟩
   obtain⟨g1,g2⟩:=ztZ hs ht
   exact⟨by rw[g1];simp only;omega,g2⟩
  ·exact List.pairwise_iff_getElem.2 fun i j hi hj hij=>hm.r i j hi hj hij
 unfold za9
 rw[if_neg (by have h5:=hm.s1;have h6:=hm.s6;omega),if_neg (by rw[zkR,zqT];omega),if_neg (by rw[e1];simp),e2]
theorem zzc {names:List Str}{ps:List Pd}{size n:Nat}{p:Pd}(h:p∈ps):(zdR (zcC names ps size n) p.name p.arity).isSome=true:=by
 unfold zdR
 rw[List.find?_isSome]
 rw[←zgO size ps (zsE (zaV size ps) n)]at h
 obtain⟨r,hr,e⟩:=List.mem_map.1 h
 exact⟨r,hr,by rw[←e];simp⟩
mutual
theorem znE {m:zal}:∀(f:zac),(∀p∈pds f,(zdR m p.name p.arity).isSome=true)→zgn m f=true
 | .mk k nm ws s,h=>by
  rw[zgn]
  have h2:=zk0 s fun p hp=>h p (by rw[pds];exact List.mem_append_right _ hp)
  by_cases hk:k=2
  ·have h3:=h ⟨nm,ws.length⟩ (by rw[pds,if_pos hk];simp)
   simp[h2,h3]
  ·simp[h2,hk]
theorem zk0 {m:zal}:∀(fs:List zac),(∀p∈zdp fs,(zdR m p.name p.arity).isSome=true)→zeL m fs=true
 |[],_=>by rw[zeL]
 |f::fs,h=>by
  rw[zeL,znE f fun p hp=>h p (by rw[zdp];exact List.mem_append_left _ hp),zk0 fs fun p hp=>h p (by rw[zdp];exact List.mem_append_right _ hp)]
  rfl
end
theorem zrt {fs:List zac}{size n:Nat}{f:zac}(hf:f∈fs)(hn:zaY f≤5):zch (znR fs size n) f=⟨0,0⟩:=by
 have h:ziG (znR fs size n) f=false:=by
  unfold ziG
  rw[Bool.not_eq_false',Bool.and_eq_true]
  refine⟨List.all_eq_true.2 fun c hc=>zo8 (zCI.2 ⟨f,hf,hc⟩),znE f fun p hp=>zzc (zfB.2 ⟨f,hf,hp⟩)⟩
 unfold zch
 rw[if_neg (by omega),if_neg (by simp[h])]
theorem zrs {fs:List zac}{size n i:Nat}(hv:∀f∈fs,(zaz false f).code=0)(hl:fs.length≤41)(h1:1≤size)(h4:size≤4)(hn:zgD fs size=some n)(h5:(znR fs size i).consts.length≤300):za9 (znR fs size i)=⟨0,0⟩:=by
 have h:=zuE hv hl h1 h4 hn
 exact zo7 h (zpk hv) (ztQ hv) (by rw[←zkR (zbz fs) (zgr fs) size i];exact h5) h.lp
end Go.Abs
