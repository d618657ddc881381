import Derived.Test.YtkkffhphodngkaaDoorLW
set_option linter.unusedSimpArgs false
namespace Go.Abs
open Go
structure zaB where
 name:Str
 value:Int
deriving DecidableEq
structure zdc where
 name:Str
 arity:Int
 tuples:List (List Int)
deriving DecidableEq
structure zal where
 size:Int
 consts:List zaB
 rels:List zdc
deriving DecidableEq
instance:Inhabited zaB:=⟨⟨⟨[]⟩,0⟩⟩
instance:Inhabited zdc:=⟨⟨⟨[]⟩,0,[]⟩⟩
@[go_sem] theorem zaH {c:zaB}:zaB.mk c.name c.value=c:=by cases c;rfl
@[go_sem] theorem zay {r:zdc}:zdc.mk r.name r.arity r.tuples=r:=by cases r;rfl
@[go_sem] theorem zae {m:zal}:zal.mk m.size m.consts m.rels=m:=by cases m;rfl
instance:Enc zaB:=⟨fun c=> .agg [.s c.name.l,.i .i64 c.value],fun x=>match x with| .agg [.s a,.i _ n]=>⟨⟨a⟩,n⟩|_=>default,fun c=>by cases c;rfl⟩
@[go_sem] theorem zkH {c:zaB}:enc c= .agg [.s c.name.l,.i .i64 c.value]:=rfl
@[go_sem] theorem zfk {a i n}:dec (α:=zaB) (.agg [.s a,.i i n])=⟨⟨a⟩,n⟩:=rfl
instance:Kc zaB 2:=⟨fun _=>rfl⟩
@[go_sem] theorem zvS {l:List zaB}:zbi (l.map enc) 2=True:=eq_true (zdo l)
@[go_sem] theorem zun {l:List zaB}:(zad (l.map enc)).all zcF=true:=by
 rw[List.all_eq_true]
 intro d hd
 simp only[zad,List.mem_flatMap,List.mem_map]at hd
 obtain⟨_,⟨a,_,rfl⟩,x,hx,rfl⟩:=hd
 simp only[zkH,FD.cells,List.mem_cons,List.not_mem_nil,or_false]at hx
 rcases hx with rfl|rfl<;>rfl
instance:Enc zdc:=⟨fun r=> .agg [.s r.name.l,.i .i64 r.arity,.sl (r.tuples.map enc)],fun x=>match x with| .agg [.s a,.i _ n,.sl t]=>⟨⟨a⟩,n,t.map dec⟩|_=>default,fun r=>by
 cases r;simp only[zc5]⟩
@[go_sem] theorem zjo {r:zdc}:enc r= .agg [.s r.name.l,.i .i64 r.arity,.sl (r.tuples.map enc)]:=rfl
@[go_sem] theorem zBq {a i n t}:dec (α:=zdc) (.agg [.s a,.i i n,.sl t])=⟨⟨a⟩,n,dec (.sl t)⟩:=rfl
instance:Kc zdc 3:=⟨fun _=>rfl⟩
@[go_sem] theorem zy0 {l:List zdc}:zbi (l.map enc) 3=True:=eq_true (zdo l)
@[go_sem] theorem zwP {l:List zdc}:(zad (l.map enc)).all zcF=true:=by
 rw[List.all_eq_true]
 intro d hd
 simp only[zad,List.mem_flatMap,List.mem_map]at hd
 obtain⟨_,⟨a,_,rfl⟩,x,hx,rfl⟩:=hd
 simp only[zjo,FD.cells,List.mem_cons,List.not_mem_nil,or_false]at hx
 rcases hx with rfl|rfl|rfl<;>rfl
instance:Enc zal:=⟨fun m=> .agg [.i .i64 m.size,.sl (m.consts.map enc),.sl (m.rels.map enc)],fun x=>match x with| .agg [.i _ n,.sl c,.sl r]=>⟨n,c.map dec,r.map dec⟩|_=>⟨0,[],[]⟩,fun m=>by
 cases m;simp only[zc5]⟩
@[go_sem] theorem zcw {m:zal}:enc m= .agg [.i .i64 m.size,.sl (m.consts.map enc),.sl (m.rels.map enc)]:=rfl
@[go_sem] theorem zxY {i n c r}:dec (α:=zal) (.agg [.i i n,.sl c,.sl r])=⟨n,dec (.sl c),dec (.sl r)⟩:=rfl
theorem zbh:∀x y:List UInt8,Op.bytesLess x y=decide (x<y)
 |[],[]=>by simp[Op.bytesLess]
 |_::_,[]=>by simp[Op.bytesLess]
 |[],_::_=>by simp[Op.bytesLess]
 |a::x,b::y=>by
  rw[Op.bytesLess,zbh x y]
  by_cases h1:a<b<;>by_cases h2:a=b<;>simp[h1,h2,List.cons_lt_cons_iff]
def zj6 (a b:Str):Int:=if a.l<b.l then-1 else if b.l<a.l then 1 else 0
def zje (a b:Int):Int:=if a<b then-1 else if b<a then 1 else 0
def znk (a b:zdc):Int:=if zj6 a.name b.name≠0 then zj6 a.name b.name else zje a.arity b.arity
def zcM:List Int→List Int→Int
 |[],[]=>0
 |[],_::_=> -1
 |_::_,[]=>1
 |a::as,b::bs=>if zje a b≠0 then zje a b else zcM as bs
theorem zea {a b:Int}:zje a b=0↔a=b:=by unfold zje;split<;>(try split)<;>omega
theorem znh {a b:Int}:zje a b<0↔a<b:=by unfold zje;split<;>(try split)<;>omega
theorem zcm (l:List UInt8):¬l<l:=List.lt_irrefl l
theorem zdm {a b c:List UInt8}(h:a<b)(h2:b<c):a<c:=List.lt_trans h h2
theorem zrU (a b:List UInt8):a<b∨a=b∨b<a:=by
 by_cases h:a<b
 ·exact .inl h
 by_cases h2:b<a
 ·exact .inr (.inr h2)
 exact .inr (.inl (List.le_antisymm (by simpa using h2) (by simpa using h)))
theorem zdA {a b:Str}:zj6 a b=0↔a=b:=by
 unfold zj6
 constructor
 ·intro h
  rcases zrU a.l b.l with h1|h1|h1
  ·rw[if_pos h1]at h;omega
  ·cases a;cases b;simp only at h1;rw[h1]
  ·rw[if_neg (fun h2=>zcm _ (zdm h1 h2)),if_pos h1]at h;omega
 ·rintro rfl;rw[if_neg (zcm _),if_neg (zcm _)]
theorem zjf {a b:Str}:zj6 a b<0↔a.l<b.l:=by
 unfold zj6
 by_cases h:a.l<b.l
 ·rw[if_pos h];simp[h]
 ·rw[if_neg h];simp only[h,iff_false];split<;>omega
theorem zkm {a b:zdc}:znk a b=0↔a.name=b.name∧a.arity=b.arity:=by
 unfold znk
 split
 ·rename_i h
  simp only[h,false_iff]
  rintro⟨h1,_⟩
  exact h (zdA.2 h1)
 ·rename_i h
  rw[zea,zdA.1 (Decidable.not_not.1 h)]
  simp
def ltR (a b:zdc):Prop:=a.name.l<b.name.l∨(a.name=b.name∧a.arity<b.arity)
theorem zgH {a b:zdc}:znk a b<0↔ltR a b:=by
 unfold znk ltR
 split
 ·rename_i h
  rw[zjf]
  constructor
  ·exact .inl
  ·rintro(h1|⟨h1,_⟩)
   ·exact h1
   ·exact absurd (zdA.2 h1) h
 ·rename_i h
  have h:=zdA.1 (Decidable.not_not.1 h)
  rw[znh,h]
  simp only[zcm,false_or,true_and]
theorem zk8 {a b c:zdc}(h:ltR a b)(h2:ltR b c):ltR a c:=by
 rcases h with h|⟨h,h'⟩<;>rcases h2 with h2|⟨h2,h2'⟩
 ·exact .inl (zdm h h2)
 ·exact .inl (by rw[←h2];exact h)
 ·exact .inl (by rw[h];exact h2)
 ·exact .inr ⟨h.trans h2,by omega⟩
theorem ziB {α:Type}(p:α→Bool):∀(l:List α) (i:Nat),i≤l.length→(∀j (h:j<l.length),j<i→p l[j]=true)→(∀j (h:j<l.length),i≤j→p l[j]=false)→(l.filter p).length=i
 |[],i,hi,_,_=>by simp at hi;simp[hi]
 |a::l,0,_,_,h2=>by
  rw[List.filter_eq_nil_iff.2]
  ·rfl
  ·intro x hx
   obtain⟨j,hj,rfl⟩:=List.getElem_of_mem hx
   rw[h2 j hj (Nat.zero_le _)];simp
 |a::l,i+1,hi,h1,h2=>by
  have ha:=h1 0 (by simp) (by omega)
  simp only[List.getElem_cons_zero]at ha
  rw[List.filter_cons,if_pos ha,List.length_cons,ziB p l i (by simpa using hi) (fun j hj h=>by have:=h1 (j+1) (by simpa using hj) (by omega);simpa using this) (fun j hj h=>by have:=h2 (j+1) (by simpa using hj) (by omega);simpa using this)]
def zcl (m:zal)(w:Str):Option zaB:=m.consts.find? fun c=>decide (c.name=w)
def zdR (m:zal)(w:Str)(n:Int):Option zdc:=m.rels.find? fun r=>decide (r.name=w∧r.arity=n)
def zcD:List zaB→Str→Option Int
 |[],_=>none
 |e::es,w=>match zcD es w with
  |some v=>some v
  |none=>if e.name=w then some e.value else none
theorem zhu (w:Str):∀(a b:List zaB),zcD (a++b) w=match zcD b w with|some v=>some v|none=>zcD a w
 |[],b=>by rw[List.nil_append,zcD];cases zcD b w<;>rfl
 |e::a,b=>by
  rw[List.cons_append,zcD,zhu w a b,zcD]
  cases zcD b w<;>rfl
theorem zf1 (a:List zaB)(e:zaB)(w:Str):zcD (a++[e]) w=if e.name=w then some e.value else zcD a w:=by
 rw[zhu,zcD,zcD]
 by_cases h:e.name=w
 ·rw[if_pos h,if_pos h]
 ·rw[if_neg h,if_neg h]
def zeO (m:zal)(w:Str):Int:=match zcl m w with|some c=>c.value|none=>0
def zbJ (m:zal)(env:List zaB)(w:Str):Int:=match zcD env w with|some v=>v|none=>zeO m w
def zlM (m:zal)(w:Str)(n:Int):List (List Int):=match zdR m w n with|some r=>r.tuples|none=>[]
def zdT (m:zal):List Int:=(List.range m.size.toNat).map Int.ofNat
mutual
def zbU (m:zal):zac→List zaB→Bool
 | .mk k nm ws s,env=>
  if k=1 then true
  else if k=2 then decide (ws.map (zbJ m env)∈zlM m nm ws.length)
  else if k=3 then decide (zbJ m env (ws.getD 0 ⟨[]⟩)=zbJ m env (ws.getD 1 ⟨[]⟩))
  else if k=4 then !(zbs m s env).getD 0 false
  else if k=5 then(zbs m s env).getD 0 false&&(zbs m s env).getD 1 false
  else if k=6 then(zbs m s env).getD 0 false||(zbs m s env).getD 1 false
  else if k=7 then !(zbs m s env).getD 0 false||(zbs m s env).getD 1 false
  else if k=8 then(zdT m).all fun v=>(zbs m s (env++[⟨nm,v⟩])).getD 0 false
  else if k=9 then(zdT m).any fun v=>(zbs m s (env++[⟨nm,v⟩])).getD 0 false
  else false
def zbs (m:zal):List zac→List zaB→List Bool
 |[],_=>[]
 |f::fs,env=>zbU m f env::zbs m fs env
end
mutual
def zaY:zac→Nat
 | .mk k _ _ s=>zbA s+if isQ k then 1 else 0
def zbA:List zac→Nat
 |[]=>0
 |f::fs=>max (zaY f) (zbA fs)
end
mutual
def zgn (m:zal):zac→Bool
 | .mk k nm ws s=>(!decide (k=2)||(zdR m nm ws.length).isSome)&&zeL m s
def zeL (m:zal):List zac→Bool
 |[]=>true
 |f::fs=>zgn m f&&zeL m fs
end
def ziG (m:zal)(f:zac):Bool:= !((cst f []).all (fun c=>(zcl m c).isSome)&&zgn m f)
def zb2 (size:Int)(prev:Option zaB)(c:zaB):Int:=
 if zaq c.name=false then 10 else if(match prev with|some p=> !decide (p.name.l<c.name.l)|none=>false)=true then 13 else if c.value<0∨size≤c.value then 3 else 0
def zeT (size arity:Int)(prev:Option (List Int))(t:List Int):Int:=
 if(t.length:Int)≠arity then 9 else if t.any (fun v=>decide (v<0∨size≤v))=true then 3 else if(match prev with|some p=>decide (0≤zcM p t)|none=>false)=true then 13 else 0
def zlx (size arity:Int):Option (List Int)→List (List Int)→Int
 |_,[]=>0
 |p,t::ts=>if zeT size arity p t≠0 then zeT size arity p t else zlx size arity (some t) ts
def zia (size:Int)(prev:Option zdc)(r:zdc):Int:=
 if zaq r.name=false then 10 else if r.arity<0∨3<r.arity then 3 else if(match prev with|some p=>decide (0≤znk p r)|none=>false)=true then 13 else zlx size r.arity none r.tuples
def zjY (size:Int):Option zaB→List zaB→Nat→zcV
 |_,[],_=>⟨0,0⟩
 |p,c::cs,i=>if zb2 size p c≠0 then⟨zb2 size p c,i⟩else zjY size (some c) cs (i+1)
def zlw (size:Int):Option zdc→List zdc→Nat→zcV
 |_,[],_=>⟨0,0⟩
 |p,r::rs,i=>if zia size p r≠0 then⟨zia size p r,i⟩else zlw size (some r) rs (i+1)
def za9 (m:zal):zcV:=
 if m.size<1∨6<m.size then⟨3,0⟩else if 300<m.consts.length∨300<m.rels.length then⟨2,0⟩
 else if(zjY m.size none m.consts 0).code≠0 then zjY m.size none m.consts 0 else zlw m.size none m.rels 0
end Go.Abs
namespace Go.Abs
open Go
mutual
def vok:zac→Prop
 | .mk k _ ws s=>1≤k∧k≤9∧(k=2→ws.length≤3)∧(k=3→ws.length=2)∧(k=4∨k=8∨k=9→s.length=1)∧(k=5∨k=6∨k=7→s.length=2)∧zj7 s
def zj7:List zac→Prop
 |[]=>True
 |f::fs=>vok f∧zj7 fs
end
theorem zeI:∀l:List zac,zj7 l↔∀f∈l,vok f
 |[]=>by rw[zj7];simp
 |f::l=>by rw[zj7,zeI l];simp
theorem zc9 {f:zac}:vok f↔1≤f.kind∧f.kind≤9∧(f.kind=2→f.words.length≤3)∧(f.kind=3→f.words.length=2)∧(f.kind=4∨f.kind=8∨f.kind=9→f.subs.length=1)∧(f.kind=5∨f.kind=6∨f.kind=7→f.subs.length=2)∧zj7 f.subs:=by
 cases f;rw[vok];rfl
mutual
theorem zqw:∀(f:zac) (d:Int) (n:Nat),(chk false f d n).1.code=0→vok f
 | .mk k nm w s,d,n,h=>by
  rw[chk]at h
  split at h
  ·rename_i h1;exact absurd h h1
  ·rename_i h1
   have h2:=zc8 (Decidable.not_not.1 h1)
   have h3:=h2.2.2.2.2
   have h4:(if k=2 then decide (w.length≤3)else if k=3 then decide (w.length=2)else decide (w.length=0))=true:=h2.2.2.2.1
   simp only[zaN]at h3
   have h5:zba false (.mk k nm w s)=zdI k:=by unfold zba;simp[zax]
   rw[h5]at h3
   unfold zdI at h3
   rw[vok]
   have h6:=znf s _ _ h
   refine⟨?_,?_,fun e=>?_,fun e=>?_,fun e=>?_,fun e=>?_,h6⟩
   ·repeat'(first|omega|split at h3)
   ·repeat'(first|omega|split at h3)
   ·rw[if_pos e]at h4;simpa using h4
   ·rw[if_neg (by omega),if_pos e]at h4;simpa using h4
   ·rw[if_neg (by omega),if_pos e]at h3;omega
   ·rw[if_neg (by omega),if_neg (by omega),if_pos e]at h3;omega
theorem znf:∀(fs:List zac) (d:Int) (n:Nat),(zdZ false fs d n).1.code=0→zj7 fs
 |[],d,n,_=>by rw[zj7];trivial
 |f::fs,d,n,h=>by
  rw[zdZ]at h
  split at h
  ·rename_i h1;exact absurd h h1
  ·rename_i h1
   rw[zj7]
   exact⟨zqw f d n (Decidable.not_not.1 h1),znf fs d _ h⟩
end
theorem zdz {f:zac}(h:(zaz false f).code=0):vok f:=zqw f 1 0 h
theorem zhe:∀{a b:List Int},zcM a b=0↔a=b
 |[],[]=>by simp[zcM]
 |[],_::_=>by simp[zcM]
 |_::_,[]=>by simp[zcM]
 |a::as,b::bs=>by
  rw[zcM]
  split
  ·rename_i h
   simp only[h,false_iff,List.cons.injEq]
   rintro⟨e,_⟩
   exact h (zea.2 e)
  ·rename_i h
   have h:=zea.1 (Decidable.not_not.1 h)
   rw[zhe,h];simp
theorem zfW:∀{a b c:List Int},zcM a b<0→zcM b c≤0→zcM a c<0
 |[],[],_,h,_=>by simp[zcM]at h
 |[],_::_,[],_,h=>by simp[zcM]at h
 |[],_::_,_::_,_,_=>by simp[zcM]
 |_::_,[],_,h,_=>by simp[zcM]at h
 |_::_,_::_,[],_,h=>by simp[zcM]at h
 |a::as,b::bs,c::cs,h,h2=>by
  rw[zcM]at h h2 ⊢
  have key:=fun h1 h2=>zfW (a:=as) (b:=bs) (c:=cs) h1 h2
  unfold zje at*
  repeat'(first|omega|exact key h h2|split at h|split at h2|split)
  all_goals(first|omega|exact key h h2|skip)
structure zrk (m:zal):Prop where
 c:∀i j (hi:i<m.consts.length) (hj:j<m.consts.length),i<j→m.consts[i].name.l<m.consts[j].name.l
 r:∀i j (hi:i<m.rels.length) (hj:j<m.rels.length),i<j→ltR m.rels[i] m.rels[j]
 t:∀r∈m.rels,∀i j (hi:i<r.tuples.length) (hj:j<r.tuples.length),i<j→zcM r.tuples[i] r.tuples[j]<0
 s1:1≤m.size
 s6:m.size≤6
 lc:m.consts.length≤10000000
 lr:m.rels.length≤300
theorem zq3 {m:zal}{p:Int→Bool}(h:∀v:Nat,(v:Int)<m.size→p v=true):(zdT m).all p=true:=by
 rw[List.all_eq_true]
 intro x hx
 unfold zdT at hx
 obtain⟨v,hv,rfl⟩:=List.mem_map.1 hx
 exact h v (by have:=List.mem_range.1 hv;omega)
theorem zk4 {m:zal}{v:Nat}(h:(v:Int)<m.size):(v:Int)∈zdT m:=List.mem_map.2 ⟨v,List.mem_range.2 (by omega),rfl⟩
theorem zjE {m:zal}{p:Int→Bool}{v:Nat}(h:(v:Int)<m.size)(hp:p v=false):(zdT m).all p=false:=by
 cases ha:(zdT m).all p with
 |false=>rfl
 |true=>rw[List.all_eq_true.1 ha _ (zk4 h)]at hp;cases hp
theorem zq4 {m:zal}{p:Int→Bool}{v:Nat}(h:(v:Int)<m.size)(hp:p v=true):(zdT m).any p=true:=List.any_eq_true.2 ⟨_,zk4 h,hp⟩
theorem zjF {m:zal}{p:Int→Bool}(h:∀v:Nat,(v:Int)<m.size→p v=false):(zdT m).any p=false:=by
 cases ha:(zdT m).any p with
 |false=>rfl
 |true=>
  obtain⟨x,hx,hp⟩:=List.any_eq_true.1 ha
  unfold zdT at hx
  obtain⟨v,hv,rfl⟩:=List.mem_map.1 hx
  have:=h v (by have:=List.mem_range.1 hv;omega)
  rw[show(Int.ofNat v:Int)=(v:Int)from rfl,this]at hp;cases hp
end Go.Abs
