import Derived.Test.YtkkffhphodngkabGreatDoorY16
set_option linter.unusedSimpArgs false
namespace Go.Abs
open Go
structure zaG where
 name:Str
 value:Int
deriving DecidableEq
structure zek where
 name:Str
 arity:Int
 tuples:List (List Int)
deriving DecidableEq
structure zay where
 size:Int
 consts:List zaG
 rels:List zek
deriving DecidableEq
instance:Inhabited zaG:=⟨⟨⟨[]⟩,0⟩⟩
instance:Inhabited zek:=⟨⟨⟨[]⟩,0,[]⟩⟩
@[go_sem] theorem zbb {c:zaG}:zaG.mk c.name c.value=c:=by cases c;rfl
@[go_sem] theorem zaL {r:zek}:zek.mk r.name r.arity r.tuples=r:=by cases r;rfl
@[go_sem] theorem zag {m:zay}:zay.mk m.size m.consts m.rels=m:=by cases m;rfl
instance:Enc zaG:=⟨fun c=> .agg [.s c.name.l,.i .i64 c.value],fun x=>match x with| .agg [.s a,.i _ n]=>⟨⟨a⟩,n⟩|_=>default,fun c=>by cases c;rfl⟩
@[go_sem] theorem znh {c:zaG}:enc c= .agg [.s c.name.l,.i .i64 c.value]:=rfl
@[go_sem] theorem zgC {a i n}:dec (α:=zaG) (.agg [.s a,.i i n])=⟨⟨a⟩,n⟩:=rfl
instance:Kc zaG 2:=⟨fun _=>rfl⟩
@[go_sem] theorem zBu {l:List zaG}:zbE (l.map enc) 2=True:=eq_true (zdm l)
@[go_sem] theorem zzR {l:List zaG}:(zaf (l.map enc)).all zc0=true:=by
 rw[List.all_eq_true]
 intro d hd
 simp only[zaf,List.mem_flatMap,List.mem_map]at hd
 obtain⟨_,⟨a,_,rfl⟩,x,hx,rfl⟩:=hd
 simp only[znh,FD.cells,List.mem_cons,List.not_mem_nil,or_false]at hx
 rcases hx with rfl|rfl<;>rfl
instance:Enc zek:=⟨fun r=> .agg [.s r.name.l,.i .i64 r.arity,.sl (r.tuples.map enc)],fun x=>match x with| .agg [.s a,.i _ n,.sl t]=>⟨⟨a⟩,n,t.map dec⟩|_=>default,fun r=>by
 cases r;simp only[zc7]⟩
@[go_sem] theorem zph {r:zek}:enc r= .agg [.s r.name.l,.i .i64 r.arity,.sl (r.tuples.map enc)]:=rfl
@[go_sem] theorem zHF {a i n t}:dec (α:=zek) (.agg [.s a,.i i n,.sl t])=⟨⟨a⟩,n,dec (.sl t)⟩:=rfl
instance:Kc zek 3:=⟨fun _=>rfl⟩
@[go_sem] theorem zEw {l:List zek}:zbE (l.map enc) 3=True:=eq_true (zdm l)
@[go_sem] theorem zCn {l:List zek}:(zaf (l.map enc)).all zc0=true:=by
 rw[List.all_eq_true]
 intro d hd
 simp only[zaf,List.mem_flatMap,List.mem_map]at hd
 obtain⟨_,⟨a,_,rfl⟩,x,hx,rfl⟩:=hd
 simp only[zph,FD.cells,List.mem_cons,List.not_mem_nil,or_false]at hx
 rcases hx with rfl|rfl|rfl<;>rfl
instance:Enc zay:=⟨fun m=> .agg [.i .i64 m.size,.sl (m.consts.map enc),.sl (m.rels.map enc)],fun x=>match x with| .agg [.i _ n,.sl c,.sl r]=>⟨n,c.map dec,r.map dec⟩|_=>⟨0,[],[]⟩,fun m=>by
 cases m;simp only[zc7]⟩
@[go_sem] theorem zdL {m:zay}:enc m= .agg [.i .i64 m.size,.sl (m.consts.map enc),.sl (m.rels.map enc)]:=rfl
@[go_sem] theorem zDu {i n c r}:dec (α:=zay) (.agg [.i i n,.sl c,.sl r])=⟨n,dec (.sl c),dec (.sl r)⟩:=rfl
theorem zbM:∀x y:List UInt8,Op.bytesLess x y=decide (x<y)
 |[],[]=>by simp[Op.bytesLess]
 |_::_,[]=>by simp[Op.bytesLess]
 |[],_::_=>by simp[Op.bytesLess]
 |a::x,b::y=>by
  rw[Op.bytesLess,zbM x y]
  by_cases h1:a<b<;>by_cases h2:a=b<;>simp[h1,h2,List.cons_lt_cons_iff]
def zmv (a b:Str):Int:=if a.l<b.l then-1 else if b.l<a.l then 1 else 0
def zk7 (a b:Int):Int:=if a<b then-1 else if b<a then 1 else 0
def zqA (a b:zek):Int:=if zmv a.name b.name≠0 then zmv a.name b.name else zk7 a.arity b.arity
def zdw:List Int→List Int→Int
 |[],[]=>0
 |[],_::_=> -1
 |_::_,[]=>1
 |a::as,b::bs=>if zk7 a b≠0 then zk7 a b else zdw as bs
theorem zfi {a b:Int}:zk7 a b=0↔a=b:=by unfold zk7;split<;>(try split)<;>omega
theorem zqx {a b:Int}:zk7 a b<0↔a<b:=by unfold zk7;split<;>(try split)<;>omega
theorem zev (l:List UInt8):¬l<l:=List.lt_irrefl l
theorem zd7 {a b c:List UInt8}(h:a<b)(h2:b<c):a<c:=List.lt_trans h h2
theorem zwi (a b:List UInt8):a<b∨a=b∨b<a:=by
 by_cases h:a<b
 ·exact .inl h
 by_cases h2:b<a
 ·exact .inr (.inr h2)
 exact .inr (.inl (List.le_antisymm (by simpa using h2) (by simpa using h)))
theorem zeq {a b:Str}:zmv a b=0↔a=b:=by
 unfold zmv
 constructor
 ·intro h
  rcases zwi a.l b.l with h1|h1|h1
  ·rw[if_pos h1]at h;omega
  ·cases a;cases b;simp only at h1;rw[h1]
  ·rw[if_neg (fun h2=>zev _ (zd7 h1 h2)),if_pos h1]at h;omega
 ·rintro rfl;rw[if_neg (zev _),if_neg (zev _)]
theorem zk8 {a b:Str}:zmv a b<0↔a.l<b.l:=by
 unfold zmv
 by_cases h:a.l<b.l
 ·rw[if_pos h];simp[h]
 ·rw[if_neg h];simp only[h,iff_false];split<;>omega
theorem zmU {a b:zek}:zqA a b=0↔a.name=b.name∧a.arity=b.arity:=by
 unfold zqA
 split
 ·rename_i h
  simp only[h,false_iff]
  rintro⟨h1,_⟩
  exact h (zeq.2 h1)
 ·rename_i h
  rw[zfi,zeq.1 (Decidable.not_not.1 h)]
  simp
def ltR (a b:zek):Prop:=a.name.l<b.name.l∨(a.name=b.name∧a.arity<b.arity)
theorem zig {a b:zek}:zqA a b<0↔ltR a b:=by
 unfold zqA ltR
 split
 ·rename_i h
  rw[zk8]
  constructor
  ·exact .inl
  ·rintro(h1|⟨h1,_⟩)
   ·exact h1
   ·exact absurd (zeq.2 h1) h
 ·rename_i h
  have h:=zeq.1 (Decidable.not_not.1 h)
  rw[zqx,h]
  simp only[zev,false_or,true_and]
theorem znN {a b c:zek}(h:ltR a b)(h2:ltR b c):ltR a c:=by
 rcases h with h|⟨h,h'⟩<;>rcases h2 with h2|⟨h2,h2'⟩
 ·exact .inl (zd7 h h2)
 ·exact .inl (by rw[←h2];exact h)
 ·exact .inl (by rw[h];exact h2)
 ·exact .inr ⟨h.trans h2,by omega⟩
theorem zks {α:Type}(p:α→Bool):∀(l:List α) (i:Nat),i≤l.length→(∀j (h:j<l.length),j<i→p l[j]=true)→(∀j (h:j<l.length),i≤j→p l[j]=false)→(l.filter p).length=i
 |[],i,hi,_,_=>by simp at hi;simp[hi]
 |a::l,0,_,_,h2=>by
  rw[List.filter_eq_nil_iff.2]
  ·rfl
  ·intro x hx
   obtain⟨j,hj,rfl⟩:=List.getElem_of_mem hx
   rw[h2 j hj (Nat.zero_le _)];simp
 |a::l,i+1,hi,h1,h2=>by
  have ha:=h1 0 (by simp) (by omega)
  simp only[List.getElem_cons_zero]at ha
  rw[List.filter_cons,if_pos ha,List.length_cons,zks p l i (by simpa using hi) (fun j hj h=>by have:=h1 (j+1) (by simpa using hj) (by omega);simpa using this) (fun j hj h=>by have:=h2 (j+1) (by simpa using hj) (by omega);simpa using this)]
def zec (m:zay)(w:Str):Option zaG:=m.consts.find? fun c=>decide (c.name=w)
def zfs (m:zay)(w:Str)(n:Int):Option zek:=m.rels.find? fun r=>decide (r.name=w∧r.arity=n)
def zdR:List zaG→Str→Option Int
 |[],_=>none
 |e::es,w=>match zdR es w with
  |some v=>some v
  |none=>if e.name=w then some e.value else none
theorem znG (w:Str):∀(a b:List zaG),zdR (a++b) w=match zdR b w with|some v=>some v|none=>zdR a w
 |[],b=>by rw[List.nil_append,zdR];cases zdR b w<;>rfl
 |e::a,b=>by
  rw[List.cons_append,zdR,znG w a b,zdR]
  cases zdR b w<;>rfl
theorem zkw (a:List zaG)(e:zaG)(w:Str):zdR (a++[e]) w=if e.name=w then some e.value else zdR a w:=by
 rw[znG,zdR,zdR]
 by_cases h:e.name=w
 ·rw[if_pos h,if_pos h]
 ·rw[if_neg h,if_neg h]
def zgz (m:zay)(w:Str):Int:=match zec m w with|some c=>c.value|none=>0
def zbi (m:zay)(env:List zaG)(w:Str):Int:=match zdR env w with|some v=>v|none=>zgz m w
def ztm (m:zay)(w:Str)(n:Int):List (List Int):=match zfs m w n with|some r=>r.tuples|none=>[]
def zdA (m:zay):List Int:=(List.range m.size.toNat).map Int.ofNat
mutual
def za2 (m:zay):zac→List zaG→Bool
 | .mk k nm ws s,env=>
  if k=1 then true
  else if k=2 then decide (ws.map (zbi m env)∈ztm m nm ws.length)
  else if k=3 then decide (zbi m env (ws.getD 0 ⟨[]⟩)=zbi m env (ws.getD 1 ⟨[]⟩))
  else if k=4 then !(zb5 m s env).getD 0 false
  else if k=5 then(zb5 m s env).getD 0 false&&(zb5 m s env).getD 1 false
  else if k=6 then(zb5 m s env).getD 0 false||(zb5 m s env).getD 1 false
  else if k=7 then !(zb5 m s env).getD 0 false||(zb5 m s env).getD 1 false
  else if k=8 then(zdA m).all fun v=>(zb5 m s (env++[⟨nm,v⟩])).getD 0 false
  else if k=9 then(zdA m).any fun v=>(zb5 m s (env++[⟨nm,v⟩])).getD 0 false
  else false
def zb5 (m:zay):List zac→List zaG→List Bool
 |[],_=>[]
 |f::fs,env=>za2 m f env::zb5 m fs env
end
theorem zdU (m:zay)(env:List zaG):∀l:List zac,zb5 m l env=l.map fun f=>za2 m f env
 |[]=>by rw[zb5];rfl
 |f::l=>by rw[zb5,zdU m env l];rfl
mutual
def zbP:zac→Nat
 | .mk k _ _ s=>zcb s+if isQ k then 1 else 0
def zcb:List zac→Nat
 |[]=>0
 |f::fs=>max (zbP f) (zcb fs)
end
mutual
def zhp (m:zay):zac→Bool
 | .mk k nm ws s=>(!decide (k=2)||(zfs m nm ws.length).isSome)&&ze7 m s
def ze7 (m:zay):List zac→Bool
 |[]=>true
 |f::fs=>zhp m f&&ze7 m fs
end
def zgM (m:zay)(f:zac):Bool:= !((cst f []).all (fun c=>(zec m c).isSome)&&zhp m f)
def zcG (size:Int)(prev:Option zaG)(c:zaG):Int:=
 if zas c.name=false then 10 else if(match prev with|some p=> !decide (p.name.l<c.name.l)|none=>false)=true then 13 else if c.value<0∨size≤c.value then 3 else 0
def zf5 (size arity:Int)(prev:Option (List Int))(t:List Int):Int:=
 if(t.length:Int)≠arity then 9 else if t.any (fun v=>decide (v<0∨size≤v))=true then 3 else if(match prev with|some p=>decide (0≤zdw p t)|none=>false)=true then 13 else 0
def zoh (size arity:Int):Option (List Int)→List (List Int)→Int
 |_,[]=>0
 |p,t::ts=>if zf5 size arity p t≠0 then zf5 size arity p t else zoh size arity (some t) ts
def zjT (size:Int)(prev:Option zek)(r:zek):Int:=
 if zas r.name=false then 10 else if r.arity<0∨3<r.arity then 3 else if(match prev with|some p=>decide (0≤zqA p r)|none=>false)=true then 13 else zoh size r.arity none r.tuples
def zl7 (size:Int):Option zaG→List zaG→Nat→zbp
 |_,[],_=>⟨0,0⟩
 |p,c::cs,i=>if zcG size p c≠0 then⟨zcG size p c,i⟩else zl7 size (some c) cs (i+1)
def zog (size:Int):Option zek→List zek→Nat→zbp
 |_,[],_=>⟨0,0⟩
 |p,r::rs,i=>if zjT size p r≠0 then⟨zjT size p r,i⟩else zog size (some r) rs (i+1)
def zbw (m:zay):zbp:=
 if m.size<1∨6<m.size then⟨3,0⟩else if 300<m.consts.length∨300<m.rels.length then⟨2,0⟩
 else if(zl7 m.size none m.consts 0).code≠0 then zl7 m.size none m.consts 0 else zog m.size none m.rels 0
end Go.Abs
namespace Go.Abs
open Go
mutual
def vok:zac→Prop
 | .mk k _ ws s=>1≤k∧k≤9∧(k=2→ws.length≤3)∧(k=3→ws.length=2)∧(k=4∨k=8∨k=9→s.length=1)∧(k=5∨k=6∨k=7→s.length=2)∧ziu s
def ziu:List zac→Prop
 |[]=>True
 |f::fs=>vok f∧ziu fs
end
theorem zg6:∀l:List zac,ziu l↔∀f∈l,vok f
 |[]=>by rw[ziu];simp
 |f::l=>by rw[ziu,zg6 l];simp
theorem zcl {f:zac}:vok f↔1≤f.kind∧f.kind≤9∧(f.kind=2→f.words.length≤3)∧(f.kind=3→f.words.length=2)∧(f.kind=4∨f.kind=8∨f.kind=9→f.subs.length=1)∧(f.kind=5∨f.kind=6∨f.kind=7→f.subs.length=2)∧ziu f.subs:=by
 cases f;rw[vok];rfl
mutual
theorem zul:∀(f:zac) (d:Int) (n:Nat),(chk false f d n).1.code=0→vok f
 | .mk k nm w s,d,n,h=>by
  rw[chk]at h
  split at h
  ·rename_i h1;exact absurd h h1
  ·rename_i h1
   have h2:=zdS (Decidable.not_not.1 h1)
   have h3:=h2.2.2.2.2
   have h4:(if k=2 then decide (w.length≤3)else if k=3 then decide (w.length=2)else decide (w.length=0))=true:=h2.2.2.2.1
   simp only[zaM]at h3
   have h5:zcj false (.mk k nm w s)=zg0 k:=by unfold zcj;simp[zai]
   rw[h5]at h3
   unfold zg0 at h3
   rw[vok]
   have h6:=zqv s _ _ h
   refine⟨?_,?_,fun e=>?_,fun e=>?_,fun e=>?_,fun e=>?_,h6⟩
   ·repeat'(first|omega|split at h3)
   ·repeat'(first|omega|split at h3)
   ·rw[if_pos e]at h4;simpa using h4
   ·rw[if_neg (by omega),if_pos e]at h4;simpa using h4
   ·rw[if_neg (by omega),if_pos e]at h3;omega
   ·rw[if_neg (by omega),if_neg (by omega),if_pos e]at h3;omega
theorem zqv:∀(fs:List zac) (d:Int) (n:Nat),(zfb false fs d n).1.code=0→ziu fs
 |[],d,n,_=>by rw[ziu];trivial
 |f::fs,d,n,h=>by
  rw[zfb]at h
  split at h
  ·rename_i h1;exact absurd h h1
  ·rename_i h1
   rw[ziu]
   exact⟨zul f d n (Decidable.not_not.1 h1),zqv fs d _ h⟩
end
theorem zcc {f:zac}(h:(zaz false f).code=0):vok f:=zul f 1 0 h
theorem ziQ:∀{a b:List Int},zdw a b=0↔a=b
 |[],[]=>by simp[zdw]
 |[],_::_=>by simp[zdw]
 |_::_,[]=>by simp[zdw]
 |a::as,b::bs=>by
  rw[zdw]
  split
  ·rename_i h
   simp only[h,false_iff,List.cons.injEq]
   rintro⟨e,_⟩
   exact h (zfi.2 e)
  ·rename_i h
   have h:=zfi.1 (Decidable.not_not.1 h)
   rw[ziQ,h];simp
theorem zhi:∀{a b c:List Int},zdw a b<0→zdw b c≤0→zdw a c<0
 |[],[],_,h,_=>by simp[zdw]at h
 |[],_::_,[],_,h=>by simp[zdw]at h
 |[],_::_,_::_,_,_=>by simp[zdw]
 |_::_,[],_,h,_=>by simp[zdw]at h
 |_::_,_::_,[],_,h=>by simp[zdw]at h
 |a::as,b::bs,c::cs,h,h2=>by
  rw[zdw]at h h2 ⊢
  have key:=fun h1 h2=>zhi (a:=as) (b:=bs) (c:=cs) h1 h2
  unfold zk7 at*
  repeat'(first|omega|exact key h h2|split at h|split at h2|split)
  all_goals(first|omega|exact key h h2|skip)
structure zyy (m:zay):Prop where
 c:∀i j (hi:i<m.consts.length) (hj:j<m.consts.length),i<j→m.consts[i].name.l<m.consts[j].name.l
 r:∀i j (hi:i<m.rels.length) (hj:j<m.rels.length),i<j→ltR m.rels[i] m.rels[j]
 t:∀r∈m.rels,∀i j (hi:i<r.tuples.length) (hj:j<r.tuples.length),i<j→zdw r.tuples[i] r.tuples[j]<0
 s1:1≤m.size
 s6:m.size≤6
 lc:m.consts.length≤10000000
 lr:m.rels.length≤300
theorem zva {m:zay}{p:Int→Bool}(h:∀v:Nat,(v:Int)<m.size→p v=true):(zdA m).all p=true:=by
 rw[List.all_eq_true]
 intro x hx
 unfold zdA at hx
 obtain⟨v,hv,rfl⟩:=List.mem_map.1 hx
 exact h v (by have:=List.mem_range.1 hv;omega)
theorem zi9 {m:zay}{v:Nat}(h:(v:Int)<m.size):(v:Int)∈zdA m:=List.mem_map.2 ⟨v,List.mem_range.2 (by omega),rfl⟩
theorem zlD {m:zay}{p:Int→Bool}{v:Nat}(h:(v:Int)<m.size)(hp:p v=false):(zdA m).all p=false:=by
 cases ha:(zdA m).all p with
 |false=>rfl
 |true=>rw[List.all_eq_true.1 ha _ (zi9 h)]at hp;cases hp
theorem zvb {m:zay}{p:Int→Bool}{v:Nat}(h:(v:Int)<m.size)(hp:p v=true):(zdA m).any p=true:=List.any_eq_true.2 ⟨_,zi9 h,hp⟩
theorem zlE {m:zay}{p:Int→Bool}(h:∀v:Nat,(v:Int)<m.size→p v=false):(zdA m).any p=false:=by
 cases ha:(zdA m).any p with
 |false=>rfl
 |true=>
  obtain⟨x,hx,hp⟩:=List.any_eq_true.1 ha
  unfold zdA at hx
  obtain⟨v,hv,rfl⟩:=List.mem_map.1 hx
  have:=h v (by have:=List.mem_range.1 hv;omega)
  rw[show(Int.ofNat v:Int)=(v:Int)from rfl,this]at hp;cases hp
end Go.Abs
