/- several texts of this proof in one; no conditions -/
import Derived.Test.YtkkffhphodngkabGreatDoorTB
import Derived.Test.YtkkffhphodngkabGreatDoorY13
import Derived.Test.YtkkffhphodngkabGreatDoorST
import Derived.Test.YtkkffhphodngkabGreatDoorAE
import Derived.Test.YtkkffhphodngkabGreatDoorVP
import Derived.Test.YtkkffhphodngkabGreatDoorY17
set_option linter.unusedSimpArgs false
namespace Go.Abs
open Go
structure Pd where
 name:Str
 arity:Int
 deriving DecidableEq
instance:Inhabited Pd:=⟨⟨⟨[]⟩,0⟩⟩
instance:Enc Pd:=⟨fun c=> .agg [.s c.name.l,.i .i64 c.arity],fun x=>match x with| .agg [.s a,.i _ n]=>⟨⟨a⟩,n⟩|_=>default,fun c=>by cases c;rfl⟩
@[go_sem] theorem zJ4 {c:Pd}:enc c= .agg [.s c.name.l,.i .i64 c.arity]:=rfl
instance:Kc Pd 2:=⟨fun _=>rfl⟩
def ltP (a b:Pd):Prop:=a.name.l<b.name.l∨(a.name=b.name∧a.arity<b.arity)
instance (a b:Pd):Decidable (ltP a b):=by unfold ltP;exact inferInstance
theorem zfN {a:Pd}:¬ltP a a:=fun h=>by
 rcases h with h|⟨_,h⟩
 ·exact zfe h
 ·omega
theorem zgO {a b c:Pd}(h:ltP a b)(h2:ltP b c):ltP a c:=by
 rcases h with h|⟨e,h⟩<;>rcases h2 with h2|⟨e2,h2⟩
 ·exact .inl (zql h h2)
 ·exact .inl (e2▸h)
 ·exact .inl (e▸h2)
 ·exact .inr ⟨e.trans e2,by omega⟩
theorem zpH {a b:Pd}(h:¬ltP a b)(h2:a≠b):ltP b a:=by
 by_cases hn:a.name=b.name
 ·refine .inr ⟨hn.symm,?_⟩
  have h3:¬a.arity<b.arity:=fun h3=>h (.inr ⟨hn,h3⟩)
  have h4:a.arity≠b.arity:=fun e=>h2 (by cases a;cases b;simp_all)
  omega
 ·exact .inl (zDg (fun h3=>h (.inl h3)) (zFw hn))
def zy7 (l:List Pd):Prop:=l.Pairwise ltP
theorem zrp:∀{a b:List Pd},zy7 a→zy7 b→(∀x,x∈a↔x∈b)→a=b
 |[],[],_,_,_=>rfl
 |[],y::b,_,_,h=>absurd ((h y).2 (by simp)) (by simp)
 |x::a,[],_,_,h=>absurd ((h x).1 (by simp)) (by simp)
 |x::a,y::b,ha,hb,h=>by
  have ha':=List.pairwise_cons.1 ha
  have hb':=List.pairwise_cons.1 hb
  have e:x=y:=by
   refine Classical.byContradiction fun hne=>?_
   have h1:x∈b:=by
    rcases List.mem_cons.1 ((h x).1 (by simp))with h1|h1
    ·exact absurd h1 hne
    ·exact h1
   have h2:y∈a:=by
    rcases List.mem_cons.1 ((h y).2 (by simp))with h2|h2
    ·exact absurd h2.symm hne
    ·exact h2
   exact zfN (zgO (ha'.1 y h2) (hb'.1 x h1))
  subst e
  rw[zrp ha'.2 hb'.2 fun z=>?_]
  have hz:=h z
  simp only[List.mem_cons]at hz
  constructor
  ·intro hza
   rcases hz.1 (.inr hza)with e|h1
   ·rw[e]at hza;exact absurd (ha'.1 x hza) zfN
   ·exact h1
  ·intro hzb
   rcases hz.2 (.inr hzb)with e|h1
   ·rw[e]at hzb;exact absurd (hb'.1 x hzb) zfN
   ·exact h1
mutual
def pds:zac→List Pd
 | .mk k nm ws s=>(if k=2 then[⟨nm,(ws.length:Int)⟩]else[])++zed s
def zed:List zac→List Pd
 |[]=>[]
 |f::fs=>pds f++zed fs
end
theorem zim {x:Pd}:∀{l:List zac},x∈zed l↔∃f∈l,x∈pds f
 |[]=>by simp[zed]
 |f::fs=>by rw[zed,List.mem_append,zim (l:=fs)];simp
def znF:List Pd→Pd→List Pd
 |[],p=>[p]
 |x::l,p=>if ltP x p then x::znF l p else if x=p then x::l else p::x::l
theorem zlF {x p:Pd}:∀{l:List Pd},x∈znF l p↔x∈l∨x=p
 |[]=>by simp[znF]
 |y::l=>by
  rw[znF]
  split
  ·rw[List.mem_cons,zlF (l:=l),List.mem_cons,or_assoc]
  ·split
   ·rename_i e;subst e
    constructor
    ·exact .inl
    ·rintro(h|rfl)
     ·exact h
     ·simp
   ·simp only[List.mem_cons]
    constructor
    ·rintro(h|h|h)
     ·exact .inr h
     ·exact .inl (.inl h)
     ·exact .inl (.inr h)
    ·rintro((h|h)|h)
     ·exact .inr (.inl h)
     ·exact .inr (.inr h)
     ·exact .inl h
theorem zqX {p:Pd}:∀{l:List Pd},zy7 l→zy7 (znF l p)
 |[],_=>by simp[znF,zy7]
 |y::l,h=>by
  have h':=List.pairwise_cons.1 h
  rw[znF]
  split
  ·rename_i hy
   refine List.pairwise_cons.2 ⟨fun z hz=>?_,zqX h'.2⟩
   rcases zlF.1 hz with hz|rfl
   ·exact h'.1 z hz
   ·exact hy
  ·split
   ·exact h
   ·rename_i h1 h2
    have h3:=zpH h1 h2
    refine List.pairwise_cons.2 ⟨fun z hz=>?_,h⟩
    rcases List.mem_cons.1 hz with rfl|hz
    ·exact h3
    ·exact zgO h3 (h'.1 z hz)
def zCZ (l:List Pd)(ps:List Pd):List Pd:=ps.foldl znF l
def zgX (fs:List zac):List Pd:=zCZ [] (zed fs)
theorem zrl:∀(ps l:List Pd),zy7 l→zy7 (zCZ l ps)
 |[],_,h=>h
 |p::ps,l,h=>zrl ps (znF l p) (zqX h)
theorem zrk {x:Pd}:∀(ps l:List Pd),x∈zCZ l ps↔x∈l∨x∈ps
 |[],l=>by simp[zCZ]
 |p::ps,l=>by
  show x∈zCZ (znF l p) ps↔_
  rw[zrk ps (znF l p),zlF,List.mem_cons,or_assoc]
theorem zrm (fs:List zac):zy7 (zgX fs):=zrl _ _ List.Pairwise.nil
theorem zgY {fs:List zac}{x:Pd}:x∈zgX fs↔∃f∈fs,x∈pds f:=by
 unfold zgX
 rw[zrk,zim];simp
def zdY (l:List Pd)(p:Pd):List Pd:=if p∈l then l else l++[p]
def zdX (l:List Pd)(ps:List Pd):List Pd:=ps.foldl zdY l
theorem zrS {l:List Pd}{p x:Pd}:x∈zdY l p↔x∈l∨x=p:=by
 unfold zdY
 split
 ·rename_i h
  constructor
  ·exact .inl
  ·rintro(h2|rfl)
   ·exact h2
   ·exact h
 ·simp
theorem zmD {l:List Pd}{p:Pd}(h:l.Pairwise (· ≠·)):(zdY l p).Pairwise (· ≠·):=by
 unfold zdY
 split
 ·exact h
 ·rename_i hp
  rw[List.pairwise_append]
  refine⟨h,by simp,fun a ha b hb e=>?_⟩
  rw[List.mem_singleton.1 hb]at e
  exact hp (e▸ha)
theorem zjL {x:Pd}:∀(ps l:List Pd),x∈zdX l ps↔x∈l∨x∈ps
 |[],l=>by simp[zdX]
 |p::ps,l=>by
  show x∈zdX (zdY l p) ps↔_
  rw[zjL ps,zrS,List.mem_cons,or_assoc]
theorem zjM:∀(ps l:List Pd),l.Pairwise (· ≠·)→(zdX l ps).Pairwise (· ≠·)
 |[],_,h=>h
 |_::ps,_,h=>zjM ps _ (zmD h)
theorem zg5:∀(ps l:List Pd),(zdX l ps).length≤l.length+ps.length
 |[],l=>by simp[zdX]
 |p::ps,l=>by
  show(zdX (zdY l p) ps).length≤_
  have h:=zg5 ps (zdY l p)
  have h2:(zdY l p).length≤l.length+1:=by unfold zdY;split<;>simp
  simp only[List.length_cons];omega
theorem ztf {fs:List zac}{U S:List Pd}(hU:∀x,x∈U↔∃f∈fs,x∈pds f)(hn:U.Pairwise (· ≠·))(hp:S.Perm U)(hs:S.Pairwise fun a b=>¬ltP b a):S=zgX fs:=by
 refine zrp ?_ (zrm fs) fun x=>?_
 ·have hn2:S.Pairwise (· ≠·):=(hp.pairwise_iff (fun{a b} h=>Ne.symm h)).2 hn
  refine List.Pairwise.imp₂ (fun a b h1 h2=>?_) hs hn2
  exact Classical.byContradiction fun h3=>h1 (zpH h3 h2)
 ·rw[hp.mem_iff,hU,zgY]
end Go.Abs
namespace Go.Abs
open Go
theorem zqz:∀(a x y:List Int),zdw (a++x) (a++y)=zdw x y
 |[],_,_=>rfl
 |h::a,x,y=>by
  rw[List.cons_append,List.cons_append,zdw,if_neg (by rw[zfi.2 rfl];simp),zqz a x y]
theorem zqy:∀{a b:List Int} (x y:List Int),a.length=b.length→zdw a b<0→zdw (a++x) (b++y)<0
 |[],[],_,_,_,h=>by simp[zdw]at h
 |[],_::_,_,_,hl,_=>by simp at hl
 |_::_,[],_,_,hl,_=>by simp at hl
 |p::a,q::b,x,y,hl,h=>by
  rw[List.cons_append,List.cons_append,zdw]
  rw[zdw]at h
  split
  ·rename_i hc;rw[if_pos hc]at h;exact h
  ·rename_i hc;rw[if_neg hc]at h;exact zqy x y (by simpa using hl) h
theorem zuF {s:Nat}(hs:0<s):∀(k i j:Nat),i<j→j<s^k→zdw (zc5 s k i) (zc5 s k j)<0
 |0,i,j,h,hj=>by simp at hj;omega
 |k+1,i,j,h,hj=>by
  rw[zc5,zc5]
  by_cases hq:i / s=j / s
  ·rw[hq,zqz,zdw,if_pos]
   ·rw[zqx]
    have h1:=Nat.div_add_mod i s
    have h2:=Nat.div_add_mod j s
    rw[hq]at h1
    omega
   ·intro e
    rw[zfi]at e
    have h1:=Nat.div_add_mod i s
    have h2:=Nat.div_add_mod j s
    rw[hq]at h1
    omega
  ·have h3:i / s<j / s:=Nat.lt_of_le_of_ne (Nat.div_le_div_right (Nat.le_of_lt h)) hq
   refine zqy _ _ (by rw[zdK,zdK]) (zuF hs k _ _ h3 ?_)
   rw[Nat.pow_succ]at hj
   exact Nat.div_lt_of_lt_mul (by rw[Nat.mul_comm];exact hj)
def zib:List Nat→Nat
 |[]=>1
 |t::ts=>t*zib ts
theorem zn5:∀(a b:List Nat),zib (a++b)=zib a*zib b
 |[],b=>by simp[zib]
 |x::a,b=>by rw[List.cons_append,zib,zib,zn5 a b,Nat.mul_assoc]
theorem zjs (s:Nat):∀c,zib (List.replicate c s)=s^c
 |0=>rfl
 |c+1=>by rw[List.replicate_succ,zib,zjs s c,Nat.pow_succ,Nat.mul_comm]
def zud:Nat→List Nat→Option Nat
 |n,[]=>some n
 |n,t::ts=>if 8192<n*t then none else zud (n*t) ts
theorem zmM:∀{ts:List Nat} {n r:Nat},(∀t∈ts,1≤t)→n≤8192→zud n ts=some r→r=n*zib ts∧r≤8192
 |[],n,r,_,hn,h=>by
  simp only[zud,Option.some.injEq]at h
  subst h
  exact⟨by simp[zib],hn⟩
 |t::ts,n,r,h1,hn,h=>by
  rw[zud]at h
  split at h
  ·cases h
  ·rename_i h2
   obtain⟨h3,h4⟩:=zmM (fun x hx=>h1 x (by simp[hx])) (by omega) h
   exact⟨by rw[h3,zib,Nat.mul_assoc],h4⟩
def zw1 (size:Nat)(p:Pd):Nat:=size^p.arity.toNat
def zbk (size:Nat):List Pd→Nat
 |[]=>0
 |p::ps=>zw1 size p+zbk size ps
def zmj (size:Nat):List Pd→List Nat
 |[]=>[]
 |p::ps=>List.replicate (zw1 size p) 2++zmj size ps
def zwl (size c:Nat)(ps:List Pd):List Nat:=List.replicate c size++zmj size ps
theorem zjI (size:Nat):∀ps:List Pd,zmj size ps=List.replicate (zbk size ps) 2
 |[]=>rfl
 |p::ps=>by rw[zmj,zbk,zjI size ps,List.replicate_append_replicate]
theorem zyN {size:Nat}(h:1≤size)(p:Pd):1≤zw1 size p:=Nat.pow_pos (by omega)
theorem zmN {size:Nat}(h:1≤size):∀ps:List Pd,ps.length≤zbk size ps
 |[]=>Nat.le_refl _
 |p::ps=>by
  have h1:=zmN h ps
  have h2:=zyN h p
  rw[zbk,List.length_cons];omega
theorem zze {size c:Nat}{ps:List Pd}(h:1≤size):∀t∈zwl size c ps,1≤t:=fun t ht=>by
 unfold zwl at ht
 rw[zjI]at ht
 rcases List.mem_append.1 ht with ht|ht
 ·rw[(List.mem_replicate.1 ht).2];exact h
 ·rw[(List.mem_replicate.1 ht).2];omega
def zkk (size c:Nat)(ps:List Pd):Option Nat:=zud 1 (zwl size c ps)
theorem zhf {size c:Nat}{ps:List Pd}{r:Nat}(h:1≤size)(hr:zkk size c ps=some r):r=size^c*2^zbk size ps∧r≤8192∧zbk size ps≤13:=by
 obtain⟨h1,h2⟩:=zmM (zze h) (by omega) hr
 unfold zwl at h1
 rw[zjI,zn5,zjs,zjs,Nat.one_mul]at h1
 refine⟨h1,h2,?_⟩
 refine Classical.byContradiction fun hc=>?_
 have h3:2^14≤2^zbk size ps:=Nat.pow_le_pow_right (by omega) (by omega)
 have h4:1≤size^c:=Nat.pow_pos (by omega)
 have h5:1*2^14≤size^c*2^zbk size ps:=Nat.mul_le_mul h4 h3
 have h6:(2:Nat)^14=16384:=by decide
 omega
def zxt (cells n:Nat):List Bool:=(zc5 2 cells n).map fun d=>decide (d=1)
def zqa (size ar:Nat)(bits:List Bool):List (List Int):=((List.range (size^ar)).filter fun k=>bits.getD k false).map (zc5 size ar)
def zgU (size:Nat):List Pd→List Bool→List zek
 |[],_=>[]
 |p::ps,bits=>⟨p.name,p.arity,zqa size p.arity.toNat bits⟩::zgU size ps (bits.drop (zw1 size p))
def zcs (names:List Str)(ps:List Pd)(size n:Nat):zay:=⟨size,List.zipWith zaG.mk names (zc5 size names.length (n / 2^zbk size ps)),zgU size ps (zxt (zbk size ps) n)⟩
theorem zin (size:Nat):∀(ps:List Pd) (bits:List Bool),(zgU size ps bits).map (fun r=>(⟨r.name,r.arity⟩:Pd))=ps
 |[],_=>rfl
 |p::ps,bits=>by rw[zgU,List.map_cons,zin size ps]
theorem zjw (size:Nat)(ps:List Pd)(bits:List Bool):(zgU size ps bits).length=ps.length:=by
 have h:=congrArg List.length (zin size ps bits)
 simpa using h
theorem zjx {size:Nat}:∀{ps:List Pd} {bits:List Bool} {r:zek},r∈zgU size ps bits→∃p∈ps,∃b,r=⟨p.name,p.arity,zqa size p.arity.toNat b⟩
 |[],_,r,h=>by simp[zgU]at h
 |p::ps,bits,r,h=>by
  rw[zgU]at h
  rcases List.mem_cons.1 h with rfl|h
  ·exact⟨p,by simp,_,rfl⟩
  ·obtain⟨q,hq,b,e⟩:=zjx h
   exact⟨q,by simp[hq],b,e⟩
theorem zry {size ar:Nat}{bits:List Bool}(hs:0<size):(zqa size ar bits).Pairwise fun a b=>zdw a b<0:=by
 unfold zqa
 rw[List.pairwise_map]
 refine List.Pairwise.filter _ ?_
 refine List.Pairwise.imp_of_mem (fun{a b} ha hb h=>?_) List.pairwise_lt_range
 exact zuF hs ar a b h (List.mem_range.1 hb)
theorem zzf {size ar:Nat}{bits:List Bool}(hs:0<size){t:List Int}(h:t∈zqa size ar bits):t.length=ar∧∀v∈t,0≤v∧v<(size:Int):=by
 unfold zqa at h
 obtain⟨k,_,rfl⟩:=List.mem_map.1 h
 exact⟨zdK _ _ _,zlf hs ar k⟩
structure zBO (names:List Str)(ps:List Pd)(size:Nat):Prop where
 nm:zC0 names
 pd:zy7 ps
 ar:∀p∈ps,0≤p.arity∧p.arity≤3
 s1:1≤size
 s4:size≤4
 ln:names.length≤10000000
 lp:ps.length≤300
theorem zdP (names:List Str)(ps:List Pd)(size n:Nat):(zcs names ps size n).consts.map (·.name)=names:=by
 show(List.zipWith zaG.mk names (zc5 size names.length _)).map (·.name)=names
 have:=zsn (vars:=names) (l:=zc5 size names.length (n / 2^zbk size ps)) (zdK _ _ _)
 exact this
theorem zqM {names:List Str}{ps:List Pd}{size n:Nat}{c:zaG}(hs:0<size)(h:c∈(zcs names ps size n).consts):0≤c.value∧c.value<(size:Int):=by
 have h2:c∈zDA names (zc5 size names.length (n / 2^zbk size ps)):=h
 exact zlf hs _ _ _ (zuP h2)
theorem znr {names:List Str}{ps:List Pd}{size n:Nat}(h:zBO names ps size):zyy (zcs names ps size n):=by
 have hc:(zcs names ps size n).consts.length=names.length:=by
  have:=congrArg List.length (zdP names ps size n);simpa using this
 have hr:(zcs names ps size n).rels.length=ps.length:=zjw _ _ _
 refine⟨fun i j hi hj hij=>?_,fun i j hi hj hij=>?_,fun r hr i j hi hj hij=>?_,by show(1:Int)≤(size:Int);have:=h.s1;omega,by show(size:Int)≤6;have:=h.s4;omega,by rw[hc];exact h.ln,by rw[hr];exact h.lp⟩
 ·have e1:∀k (hk:k<(zcs names ps size n).consts.length),(zcs names ps size n).consts[k].name=names[k]'(by rw[←hc];exact hk):=fun k hk=>by
   have:=List.getElem_of_eq (zdP names ps size n) (i:=k) (by rw[List.length_map];exact hk)
   rw[←this,List.getElem_map]
  rw[e1 i hi,e1 j hj]
  exact(List.pairwise_iff_getElem.1 h.nm) i j _ _ hij
 ·have e1:∀k (hk:k<(zcs names ps size n).rels.length),(⟨(zcs names ps size n).rels[k].name,(zcs names ps size n).rels[k].arity⟩:Pd)=ps[k]'(by rw[←hr];exact hk):=fun k hk=>by
   have:=List.getElem_of_eq (zin size ps (zxt (zbk size ps) n)) (i:=k) (by rw[List.length_map];exact hk)
   rw[←this,List.getElem_map];rfl
  have h2:=(List.pairwise_iff_getElem.1 h.pd) i j (by rw[←hr];exact hi) (by rw[←hr];exact hj) hij
  rw[←e1 i hi,←e1 j hj]at h2
  exact h2
 ·obtain⟨p,_,b,rfl⟩:=zjx hr
  exact(List.pairwise_iff_getElem.1 (zry (by have:=h.s1;omega))) i j hi hj hij
theorem zsB {names:List Str}{ps:List Pd}{size n:Nat}{w:Str}(h:w∈names):(zec (zcs names ps size n) w).isSome=true:=by
 unfold zec
 rw[List.find?_isSome]
 rw[←zdP names ps size n]at h
 obtain⟨c,hc,e⟩:=List.mem_map.1 h
 exact⟨c,hc,by simp[e]⟩
end Go.Abs
namespace Go.Abs
open Go
def okF (fs:List zac)(m:zay):Bool:=fs.all fun f=>za2 m f []
def zlQ (fs:List zac)(size:Nat):Option Nat:=zkk size (zaH fs).length (zgX fs)
def zsW (fs:List zac)(size n:Nat):zay:=zcs (zaH fs) (zgX fs) size n
def zeR (fs:List zac)(size n:Nat):List zay:=((List.range n).map (zsW fs size)).filter (okF fs)
def zcY (fs:List zac)(size:Nat):Option (List zay):=(zlQ fs size).map (zeR fs size)
theorem zsL (fs:List zac)(size n:Nat):zeR fs size (n+1)=zeR fs size n++(if okF fs (zsW fs size n)=true then[zsW fs size n]else[]):=by
 unfold zeR
 rw[List.range_succ,List.map_append,List.filter_append]
 congr 1
 simp only[List.map_cons,List.map_nil,List.filter_cons,List.filter_nil]
theorem zvu (fs:List zac)(size:Nat):∀n,(zeR fs size n).length≤n:=fun n=>by
 unfold zeR
 refine Nat.le_trans (List.length_filter_le _ _) ?_
 simp
theorem zvv (fs:List zac)(size:Nat){n t:Nat}(h:n≤t):∃r,zeR fs size t=zeR fs size n++r:=by
 obtain⟨k,rfl⟩:=Nat.exists_eq_add_of_le h
 unfold zeR
 rw[List.range_add,List.map_append,List.filter_append]
 exact⟨_,rfl⟩
def zcM:zay:=⟨0,[],[]⟩
def zrZ:List zac→Nat→zbp
 |[],_=>⟨0,0⟩
 |f::fs,i=>if(zaz false f).code≠0 then⟨(zaz false f).code,i⟩else if 5<zbP f then⟨17,i⟩else zrZ fs (i+1)
def zca (fs:List zac)(size:Int):zbp:=if 41<fs.length then⟨2, -1⟩else if(zrZ fs 0).code≠0 then zrZ fs 0 else if size<1∨4<size then⟨3, -2⟩else⟨0,0⟩
theorem zmJ:∀{fs:List zac} {i:Nat},(zrZ fs i).code=0→zrZ fs i=⟨0,0⟩∧∀f∈fs,(zaz false f).code=0∧zbP f≤5
 |[],i,_=>⟨rfl,by simp⟩
 |f::fs,i,h=>by
  rw[zrZ]at h ⊢
  by_cases h1:(zaz false f).code=0
  ·rw[if_neg (by simp[h1])]at h ⊢
   by_cases h2:5<zbP f
   ·rw[if_pos h2]at h;simp at h
   ·rw[if_neg h2]at h ⊢
    obtain⟨h3,h4⟩:=zmJ h
    refine⟨h3,fun g hg=>?_⟩
    rcases List.mem_cons.1 hg with rfl|hg
    ·exact⟨h1,by omega⟩
    ·exact h4 g hg
  ·rw[if_pos h1]at h;exact absurd h h1
theorem zgG {fs:List zac}{size:Int}(h:(zca fs size).code=0):zca fs size=⟨0,0⟩∧fs.length≤41∧(∀f∈fs,(zaz false f).code=0∧zbP f≤5)∧1≤size∧size≤4:=by
 unfold zca at h ⊢
 by_cases h1:41<fs.length
 ·rw[if_pos h1]at h;exact absurd h (by decide)
 rw[if_neg h1]at h ⊢
 by_cases h2:(zrZ fs 0).code=0
 rotate_left
 ·rw[if_pos h2]at h;exact absurd h h2
 rw[if_neg (by simp[h2])]at h ⊢
 by_cases h3:size<1∨4<size
 ·rw[if_pos h3]at h;exact absurd h (by decide)
 rw[if_neg h3]
 exact⟨rfl,by omega,(zmJ h2).2,by omega,by omega⟩
def zi1 (fs:List zac):Nat→Nat→zay×Bool×zbp
 |_,0=>(zcM,false,⟨0,0⟩)
 |k,left+1=>match zcY fs k with
  |none=>(zcM,false,⟨17, -2⟩)
  |some []=>zi1 fs (k+1) left
  |some (m::_)=>(m,true,⟨0,0⟩)
def ze6 (fs:List zac)(size:Int):zay×Bool×zbp:=
 if(zca fs size).code≠0 then(zcM,false,zca fs size)else zi1 fs 1 size.toNat
end Go.Abs
namespace Go.Abs
open Go
theorem zI1 {l:List zac}{w:Str}:w∈zaH l↔∃f∈l,w∈cst f []:=by
 unfold zaH
 constructor
 ·intro h
  obtain⟨x,hx,rfl⟩:=List.mem_map.1 h
  have h2:=(zcK _).mem_iff.1 ((zew _ _).1 hx)
  obtain⟨y,hy,rfl⟩:=List.mem_map.1 h2
  obtain⟨f,hf,h3⟩:=List.mem_flatMap.1 hy
  exact⟨f,hf,(za9 f _).1 h3⟩
 ·rintro⟨f,hf,hw⟩
  refine List.mem_map.2 ⟨w.l,(zew _ _).2 ((zcK _).mem_iff.2 (List.mem_map.2 ⟨w,List.mem_flatMap.2 ⟨f,hf,(za9 f w).2 hw⟩,rfl⟩)),rfl⟩
theorem zkA (l:List zac):zC0 (zaH l):=zy8 _
theorem zqO:∀{l:List zac},(∀f∈l,f.fit=true∧f.size≤200)→(l.flatMap zaP).length≤l.length*200000
 |[],_=>by simp
 |f::l,h=>by
  rw[List.flatMap_cons,List.length_append,List.length_cons]
  have h1:=zqO fun g hg=>h g (List.mem_cons_of_mem _ hg)
  have h2:=h f (by simp)
  have h3:=zdJ f [] h2.1
  have h4:=zeF f
  omega
theorem zAT {l:List zac}(h:∀f∈l,(zaz false f).code=0):∀f∈l,f.fit=true∧f.size≤200:=fun f hf=>⟨zbW (h f hf),zaY (h f hf)⟩
theorem zkz {l:List zac}(h:∀f∈l,(zaz false f).code=0)(hl:l.length≤41):(zaH l).length≤10000000:=by
 have h1:=zqO (zAT h)
 unfold zaH
 rw[List.length_map]
 refine Nat.le_trans (zdh _) ?_
 rw[zeA,List.length_map]
 omega
mutual
theorem zq6:∀(f:zac),vok f→∀p∈pds f,0≤p.arity∧p.arity≤3
 | .mk k nm ws s,h,p,hp=>by
  rw[vok]at h
  rw[pds]at hp
  rcases List.mem_append.1 hp with hp|hp
  ·split at hp
   ·rename_i hk
    have:=h.2.2.1 hk
    rw[List.mem_singleton.1 hp]
    exact⟨by simp only;omega,by simp only;omega⟩
   ·simp at hp
  ·exact zvJ s h.2.2.2.2.2.2 p hp
theorem zvJ:∀(fs:List zac),ziu fs→∀p∈zed fs,0≤p.arity∧p.arity≤3
 |[],_,p,hp=>by simp[zed]at hp
 |f::fs,h,p,hp=>by
  rw[ziu]at h
  rw[zed]at hp
  rcases List.mem_append.1 hp with hp|hp
  ·exact zq6 f h.1 p hp
  ·exact zvJ fs h.2 p hp
end
theorem zFr {fs:List zac}(hv:∀f∈fs,(zaz false f).code=0):∀p∈zgX fs,0≤p.arity∧p.arity≤3:=fun p hp=>by
 obtain⟨f,hf,h⟩:=zgY.1 hp
 exact zq6 f (zcc (hv f hf)) p h
theorem zz9 {fs:List zac}{size n:Nat}(hv:∀f∈fs,(zaz false f).code=0)(hl:fs.length≤41)(h1:1≤size)(h4:size≤4)(hn:zlQ fs size=some n):zBO (zaH fs) (zgX fs) size:=by
 obtain⟨_,_,h3⟩:=zhf h1 hn
 have h5:=zmN h1 (zgX fs)
 exact⟨zkA fs,zrm fs,zFr hv,h1,h4,zkz hv hl,by omega⟩
end Go.Abs
namespace Go.Abs
open Go
mutual
theorem zq7:∀(f:zac),shp false f→∀p∈pds f,zas p.name=true
 | .mk k nm ws s,h,p,hp=>by
  rw[shp]at h
  rw[pds]at hp
  rcases List.mem_append.1 hp with hp|hp
  ·split at hp
   ·rename_i hk
    rw[List.mem_singleton.1 hp]
    subst hk
    exact h.1.2.2.1 rfl (by unfold isQ;show¬((2:Int)=8∨(2:Int)=9);omega)
   ·simp at hp
  ·exact zn4 s h.2 p hp
theorem zn4:∀(fs:List zac),ze9 false fs→∀p∈zed fs,zas p.name=true
 |[],_,p,hp=>by simp[zed]at hp
 |f::fs,h,p,hp=>by
  rw[ze9]at h
  rw[zed]at hp
  rcases List.mem_append.1 hp with hp|hp
  ·exact zq7 f h.1 p hp
  ·exact zn4 fs h.2 p hp
end
theorem zy2 {fs:List zac}(hv:∀f∈fs,(zaz false f).code=0):∀p∈zgX fs,zas p.name=true:=fun p hp=>by
 obtain⟨f,hf,h⟩:=zgY.1 hp
 exact zq7 f (zfJ (hv f hf)) p h
theorem zsQ {fs:List zac}(hv:∀f∈fs,(zaz false f).code=0):∀w∈zaH fs,zas w=true:=fun w hw=>by
 obtain⟨f,hf,h⟩:=zI1.1 hw
 exact zih (p:=fun w=>zas w=true) f [] w (zeJ (hv f hf)) h
theorem zrf {size:Int}:∀(cs:List zaG) (p:Option zaG) (i:Nat),(∀c∈cs,zas c.name=true∧0≤c.value∧c.value<size)→(cs.Pairwise fun a b=>a.name.l<b.name.l)→(∀q,p=some q→∀c∈cs,q.name.l<c.name.l)→zl7 size p cs i=⟨0,0⟩
 |[],_,_,_,_,_=>rfl
 |c::cs,p,i,h1,h2,h3=>by
  have hc:=h1 c (by simp)
  have h2':=List.pairwise_cons.1 h2
  have e:zcG size p c=0:=by
   unfold zcG
   rw[if_neg (by simp[hc.1]),if_neg,if_neg (by omega)]
   cases p with
   |none=>simp
   |some q=>simpa using h3 q rfl c (by simp)
  rw[zl7,if_neg (by simp[e]),zrf cs (some c) (i+1) (fun x hx=>h1 x (by simp[hx])) h2'.2 (fun q hq x hx=>by rw[←Option.some.inj hq];exact h2'.1 x hx)]
theorem zrh {size ar:Int}:∀(ts:List (List Int)) (p:Option (List Int)),(∀t∈ts,(t.length:Int)=ar∧∀v∈t,0≤v∧v<size)→(ts.Pairwise fun a b=>zdw a b<0)→(∀q,p=some q→∀t∈ts,zdw q t<0)→zoh size ar p ts=0
 |[],_,_,_,_=>rfl
 |t::ts,p,h1,h2,h3=>by
  have ht:=h1 t (by simp)
  have h2':=List.pairwise_cons.1 h2
  have e:zf5 size ar p t=0:=by
   unfold zf5
   rw[if_neg (by simp[ht.1]),if_neg,if_neg]
   ·cases p with
    |none=>simp
    |some q=>have:=h3 q rfl t (by simp);simp;omega
   ·rw[Bool.not_eq_true,List.any_eq_false]
    intro v hv
    have:=ht.2 v hv
    simp;omega
  rw[zoh,if_neg (by simp[e]),zrh ts (some t) (fun x hx=>h1 x (by simp[hx])) h2'.2 (fun q hq x hx=>by rw[←Option.some.inj hq];exact h2'.1 x hx)]
theorem zrg {size:Int}:∀(rs:List zek) (p:Option zek) (i:Nat),(∀r∈rs,zas r.name=true∧0≤r.arity∧r.arity≤3∧zoh size r.arity none r.tuples=0)→(rs.Pairwise ltR)→(∀q,p=some q→∀r∈rs,ltR q r)→zog size p rs i=⟨0,0⟩
 |[],_,_,_,_,_=>rfl
 |r::rs,p,i,h1,h2,h3=>by
  have hr:=h1 r (by simp)
  have h2':=List.pairwise_cons.1 h2
  have e:zjT size p r=0:=by
   unfold zjT
   rw[if_neg (by simp[hr.1]),if_neg (by omega),if_neg,hr.2.2.2]
   cases p with
   |none=>simp
   |some q=>have:=zig.2 (h3 q rfl r (by simp));simp;omega
  rw[zog,if_neg (by simp[e]),zrg rs (some r) (i+1) (fun x hx=>h1 x (by simp[hx])) h2'.2 (fun q hq x hx=>by rw[←Option.some.inj hq];exact h2'.1 x hx)]
theorem znq (names:List Str)(ps:List Pd)(size n:Nat):(zcs names ps size n).consts.length=names.length:=by
 have:=congrArg List.length (zdP names ps size n);simpa using this
theorem zuT (names:List Str)(ps:List Pd)(size n:Nat):(zcs names ps size n).rels.length=ps.length:=zjw _ _ _
theorem zsA {names:List Str}{ps:List Pd}{size n:Nat}(h:zBO names ps size)(h1:∀w∈names,zas w=true)(h2:∀p∈ps,zas p.name=true)(h3:names.length≤300)(h4:ps.length≤300):zbw (zcs names ps size n)=⟨0,0⟩:=by
 have hm:=znr (n:=n) h
 have hs:0<size:=by have:=h.s1;omega
 have e1:zl7 (zcs names ps size n).size none (zcs names ps size n).consts 0=⟨0,0⟩:=by
  refine zrf _ _ _ (fun c hc=>⟨?_,zqM hs hc⟩) ?_ (fun q hq=>by cases hq)
  ·refine h1 _ ?_
   rw[←zdP names ps size n]
   exact List.mem_map_of_mem hc
  ·exact List.pairwise_iff_getElem.2 fun i j hi hj hij=>hm.c i j hi hj hij
 have e2:zog (zcs names ps size n).size none (zcs names ps size n).rels 0=⟨0,0⟩:=by
  refine zrg _ _ _ (fun r hr=>?_) ?_ (fun q hq=>by cases hq)
  ·obtain⟨p,hp,b,rfl⟩:=zjx hr
   have ha:=h.ar p hp
   refine⟨h2 p hp,ha.1,ha.2,zrh _ _ (fun t ht=>?_) (zry hs) (fun q hq=>by cases hq)⟩
   obtain⟨g1,g2⟩:=zzf hs ht
   exact⟨by rw[g1];simp only;omega,g2⟩
  ·exact List.pairwise_iff_getElem.2 fun i j hi hj hij=>hm.r i j hi hj hij
 unfold zbw
 rw[if_neg (by have h5:=hm.s1;have h6:=hm.s6;omega),if_neg (by rw[znq,zuT];omega),if_neg (by rw[e1];simp),e2]
theorem zFb {names:List Str}{ps:List Pd}{size n:Nat}{p:Pd}(h:p∈ps):(zfs (zcs names ps size n) p.name p.arity).isSome=true:=by
 unfold zfs
 rw[List.find?_isSome]
 rw[←zin size ps (zxt (zbk size ps) n)]at h
 obtain⟨r,hr,e⟩:=List.mem_map.1 h
 exact⟨r,hr,by rw[←e];simp⟩
mutual
theorem zqS {m:zay}:∀(f:zac),(∀p∈pds f,(zfs m p.name p.arity).isSome=true)→zhp m f=true
 | .mk k nm ws s,h=>by
  rw[zhp]
  have h2:=znC s fun p hp=>h p (by rw[pds];exact List.mem_append_right _ hp)
  by_cases hk:k=2
  ·have h3:=h ⟨nm,ws.length⟩ (by rw[pds,if_pos hk];simp)
   simp[h2,h3]
  ·simp[h2,hk]
theorem znC {m:zay}:∀(fs:List zac),(∀p∈zed fs,(zfs m p.name p.arity).isSome=true)→ze7 m fs=true
 |[],_=>by rw[ze7]
 |f::fs,h=>by
  rw[ze7,zqS f fun p hp=>h p (by rw[zed];exact List.mem_append_left _ hp),znC fs fun p hp=>h p (by rw[zed];exact List.mem_append_right _ hp)]
  rfl
end
theorem zvF {fs:List zac}{size n:Nat}{f:zac}(hf:f∈fs)(hn:zbP f≤5):zck (zsW fs size n) f=⟨0,0⟩:=by
 have h:zgM (zsW fs size n) f=false:=by
  unfold zgM
  rw[Bool.not_eq_false',Bool.and_eq_true]
  refine⟨List.all_eq_true.2 fun c hc=>zsB (zI1.2 ⟨f,hf,hc⟩),zqS f fun p hp=>zFb (zgY.2 ⟨f,hf,hp⟩)⟩
 unfold zck
 rw[if_neg (by omega),if_neg (by simp[h])]
theorem zvE {fs:List zac}{size n i:Nat}(hv:∀f∈fs,(zaz false f).code=0)(hl:fs.length≤41)(h1:1≤size)(h4:size≤4)(hn:zlQ fs size=some n)(h5:(zsW fs size i).consts.length≤300):zbw (zsW fs size i)=⟨0,0⟩:=by
 have h:=zz9 hv hl h1 h4 hn
 exact zsA h (zsQ hv) (zy2 hv) (by rw[←znq (zaH fs) (zgX fs) size i];exact h5) h.lp
end Go.Abs
namespace Go.Abs
open Go
theorem znY {l:List zac}{a:List Str}(h:zC0 a)(h2:∀w,(∃f∈l,w∈cst f [])↔w∈a):zaH l=a:=
 zwf (zkA l) h fun w=>by rw[zI1];exact h2 w
theorem zlN {l:List zac}{k:Nat}{ms:List zay}{m:zay}(h:zcY l k=some ms)(hm:m∈ms):∃n i,zlQ l k=some n∧m=zsW l k i∧okF l m=true:=by
 unfold zcY at h
 cases hn:zlQ l k with
 |none=>rw[hn]at h;cases h
 |some n=>
  rw[hn]at h
  obtain rfl:zeR l k n=ms:=Option.some.inj h
  unfold zeR at hm
  obtain⟨h1,h2⟩:=List.mem_filter.1 hm
  obtain⟨i,_,e⟩:=List.mem_map.1 h1
  exact⟨n,i,rfl,e.symm,h2⟩
theorem zqN {l:List zac}{m:zay}{e:zbp}:∀{left k:Nat},zi1 l k left=(m,true,e)→∃j,k≤j∧j<k+left∧(∃ms,zcY l j=some (m::ms))∧(∀i,k≤i→i<j→zcY l i=some [])∧e=⟨0,0⟩
 |0,k,h=>by rw[zi1]at h;simp at h
 |left+1,k,h=>by
  rw[zi1]at h
  cases hm:zcY l k with
  |none=>rw[hm]at h;simp at h
  |some ms=>
   rw[hm]at h
   cases ms with
   |nil=>
    obtain⟨j,h1,h2,h3,h4,h5⟩:=zqN (left:=left) (k:=k+1) h
    refine⟨j,by omega,by omega,h3,fun i hi hj=>?_,h5⟩
    rcases Nat.lt_or_ge k i with h6|h6
    ·exact h4 i h6 hj
    ·obtain rfl:i=k:=by omega
     exact hm
   |cons x ms=>
    simp only[Prod.mk.injEq]at h
    obtain⟨rfl,_,rfl⟩:=h
    exact⟨k,Nat.le_refl _,by omega,⟨ms,hm⟩,fun i h1 h2=>by omega,rfl⟩
theorem zpt {l:List zac}{size:Int}{m:zay}{e:zbp}(h:ze6 l size=(m,true,e)):∃j:Nat,(zca l size).code=0∧1≤j∧(j:Int)≤size∧(∃ms,zcY l j=some (m::ms))∧(∀i,1≤i→i<j→zcY l i=some [])∧e=⟨0,0⟩:=by
 unfold ze6 at h
 split at h
 ·simp at h
 ·rename_i h0
  obtain⟨j,h1,h2,h3,h4,h5⟩:=zqN h
  have:=(zgG (Decidable.not_not.1 h0)).2.2.2.1
  exact⟨j,Decidable.not_not.1 h0,h1,by omega,h3,h4,h5⟩
theorem znV {l:List zac}{k:Nat}{x:zay}{ms:List zay}(h:zcY l k=some ms)(hx:x∈ms):x.size=(k:Int):=by
 obtain⟨n,i,_,rfl,_⟩:=zlN h hx
 rfl
def zzK:Str:=⟨[100,111,103]⟩
def zwY:Str:=⟨[107,105,109]⟩
def zCO:Str:=⟨[108,101,101]⟩
def zjQ:zac:= .mk 2 zzK [zwY] []
end Go.Abs
namespace Go.Abs
open Go
structure zqd where
 kind:Int
 proof:Prf
 model:zay
@[go_sem] theorem zbH {v:zqd}:zqd.mk v.kind v.proof v.model=v:=by cases v;rfl
instance:Enc zqd:=⟨fun v=> .agg [.i .i64 v.kind,.i .i64 v.proof.kind,.i .i64 v.proof.form,.i .i64 v.proof.other,.s v.proof.name.l,.sl (v.proof.subs.map enc),.i .i64 v.model.size,.sl (v.model.consts.map enc),.sl (v.model.rels.map enc)],
 fun x=>match x with| .agg [.i _ k,.i _ a,.i _ b,.i _ c,.s n,.sl s,.i _ z,.sl cs,.sl rs]=>⟨k,.mk a b c ⟨n⟩ (s.map dec),⟨z,cs.map dec,rs.map dec⟩⟩|_=>⟨0,.mk 0 0 0 ⟨[]⟩ [],⟨0,[],[]⟩⟩,fun v=>by
  cases v with
  |mk k p m=>simp only[zc7];rw[show(⟨p.name.l⟩:Str)=p.name from rfl,zal]⟩
@[go_sem] theorem zF0 {v:zqd}:enc v= .agg [.i .i64 v.kind,.i .i64 v.proof.kind,.i .i64 v.proof.form,.i .i64 v.proof.other,.s v.proof.name.l,.sl (v.proof.subs.map enc),.i .i64 v.model.size,.sl (v.model.consts.map enc),.sl (v.model.rels.map enc)]:=rfl
@[go_sem] theorem zFY {i j h l i2 k a b c n s z cs rs}:dec (α:=zqd) (.agg [.i i k,.i j a,.i h b,.i l c,.s n,.sl s,.i i2 z,.sl cs,.sl rs])=⟨k,.mk a b c ⟨n⟩ (dec (.sl s)),⟨z,dec (.sl cs),dec (.sl rs)⟩⟩:=rfl
def zzD (p:Prf×Bool×zbp)(m:zay×Bool×zbp):zqd×zbp:=
 if p.2.2.code≠0∧p.2.2.code≠17 then(⟨0,.mk 0 0 0 ⟨[]⟩ [],zcM⟩,p.2.2)
 else if p.2.1=true then(⟨1,p.1,zcM⟩,⟨0,0⟩)
 else if m.2.1=true then(⟨2,.mk 0 0 0 ⟨[]⟩ [],m.1⟩,⟨0,0⟩)
 else(⟨3,.mk 0 0 0 ⟨[]⟩ [],zcM⟩,⟨0,0⟩)
theorem zuR {names:List Str}{ps:List Pd}{size n:Nat}(hs:0<size):zCg (zcs names ps size n) []:=fun w=>by
 show zgz (zcs names ps size n) w∈zdA (zcs names ps size n)
 have key:∀v:Int,0≤v→v<(size:Int)→v∈zdA (zcs names ps size n):=fun v h1 h2=>by
  have:=zi9 (m:=zcs names ps size n) (v:=v.toNat) (by show((v.toNat:Nat):Int)<(size:Int);omega)
  rwa [Int.toNat_of_nonneg h1]at this
 unfold zgz
 split
 ·rename_i c hc
  have:=zqM hs (List.mem_of_find?_eq_some hc)
  exact key _ this.1 this.2
 ·exact key 0 (by omega) (by omega)
theorem zuU {l:List zac}{size:Int}{m:zay}{e:zbp}(h:ze6 l size=(m,true,e)):zCg m []∧∀f∈l,za2 m f []=true:=by
 obtain⟨j,_,h1,_,⟨ms,hms⟩,_,_⟩:=zpt h
 obtain⟨n,i,_,he,hok⟩:=zlN hms (show m∈m::ms by simp)
 refine⟨by rw[he];exact zuR h1,fun f hf=>?_⟩
 exact(List.all_eq_true.1 hok) f hf
end Go.Abs
namespace Go.Abs
open Go
theorem zxG (f:zac):cst (zbx f) []=cst f []:=by
 unfold zbx
 rw[cst,zbN,zbN]
 simp[isQ]
theorem zrF (m:zay)(f:zac):za2 m (zbx f) []= !za2 m f []:=by
 unfold zbx
 rw[za2,zb5,zb5]
 simp
end Go.Abs
