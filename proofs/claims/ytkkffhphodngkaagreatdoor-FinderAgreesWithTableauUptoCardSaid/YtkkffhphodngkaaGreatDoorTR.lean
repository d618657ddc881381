import Derived.Test.YtkkffhphodngkaaGreatDoorY16
set_option linter.unusedSimpArgs false
namespace Go.Abs
open Go
structure zaH where
 name:Str
 value:Int
deriving DecidableEq
structure zeT where
 name:Str
 arity:Int
 tuples:List (List Int)
deriving DecidableEq
structure zaB where
 size:Int
 consts:List zaH
 rels:List zeT
deriving DecidableEq
instance:Inhabited zaH:=⟨⟨⟨[]⟩,0⟩⟩
instance:Inhabited zeT:=⟨⟨⟨[]⟩,0,[]⟩⟩
@[go_sem] theorem zc4 {c:zaH}:zaH.mk c.name c.value=c:=by cases c;rfl
@[go_sem] theorem zfh {r:zeT}:zeT.mk r.name r.arity r.tuples=r:=by cases r;rfl
@[go_sem] theorem zai {m:zaB}:zaB.mk m.size m.consts m.rels=m:=by cases m;rfl
instance:Enc zaH:=⟨fun c=> .agg [.s c.name.l,.i .i64 c.value],fun x=>match x with| .agg [.s a,.i _ n]=>⟨⟨a⟩,n⟩|_=>default,fun c=>by cases c;rfl⟩
@[go_sem] theorem zmG {c:zaH}:enc c= .agg [.s c.name.l,.i .i64 c.value]:=rfl
@[go_sem] theorem zga {a i n}:dec (α:=zaH) (.agg [.s a,.i i n])=⟨⟨a⟩,n⟩:=rfl
instance:Kc zaH 2:=⟨fun _=>rfl⟩
@[go_sem] theorem zAq {l:List zaH}:zbx (l.map enc) 2=True:=eq_true (zdf l)
@[go_sem] theorem zyK {l:List zaH}:(zad (l.map enc)).all zcN=true:=by
 rw[List.all_eq_true]
 intro d hd
 simp only[zad,List.mem_flatMap,List.mem_map]at hd
 obtain⟨_,⟨a,_,rfl⟩,x,hx,rfl⟩:=hd
 simp only[zmG,FD.cells,List.mem_cons,List.not_mem_nil,or_false]at hx
 rcases hx with rfl|rfl<;>rfl
instance:Enc zeT:=⟨fun r=> .agg [.s r.name.l,.i .i64 r.arity,.sl (r.tuples.map enc)],fun x=>match x with| .agg [.s a,.i _ n,.sl t]=>⟨⟨a⟩,n,t.map dec⟩|_=>default,fun r=>by
 cases r;simp only[zcT]⟩
@[go_sem] theorem ztX {r:zeT}:enc r= .agg [.s r.name.l,.i .i64 r.arity,.sl (r.tuples.map enc)]:=rfl
@[go_sem] theorem zGc {a i n t}:dec (α:=zeT) (.agg [.s a,.i i n,.sl t])=⟨⟨a⟩,n,dec (.sl t)⟩:=rfl
instance:Kc zeT 3:=⟨fun _=>rfl⟩
@[go_sem] theorem zDw {l:List zeT}:zbx (l.map enc) 3=True:=eq_true (zdf l)
@[go_sem] theorem zBl {l:List zeT}:(zad (l.map enc)).all zcN=true:=by
 rw[List.all_eq_true]
 intro d hd
 simp only[zad,List.mem_flatMap,List.mem_map]at hd
 obtain⟨_,⟨a,_,rfl⟩,x,hx,rfl⟩:=hd
 simp only[ztX,FD.cells,List.mem_cons,List.not_mem_nil,or_false]at hx
 rcases hx with rfl|rfl|rfl<;>rfl
instance:Enc zaB:=⟨fun m=> .agg [.i .i64 m.size,.sl (m.consts.map enc),.sl (m.rels.map enc)],fun x=>match x with| .agg [.i _ n,.sl c,.sl r]=>⟨n,c.map dec,r.map dec⟩|_=>⟨0,[],[]⟩,fun m=>by
 cases m;simp only[zcT]⟩
@[go_sem] theorem zgb {m:zaB}:enc m= .agg [.i .i64 m.size,.sl (m.consts.map enc),.sl (m.rels.map enc)]:=rfl
@[go_sem] theorem zCs {i n c r}:dec (α:=zaB) (.agg [.i i n,.sl c,.sl r])=⟨n,dec (.sl c),dec (.sl r)⟩:=rfl
theorem zcE:∀x y:List UInt8,Op.bytesLess x y=decide (x<y)
 |[],[]=>by simp[Op.bytesLess]
 |_::_,[]=>by simp[Op.bytesLess]
 |[],_::_=>by simp[Op.bytesLess]
 |a::x,b::y=>by
  rw[Op.bytesLess,zcE x y]
  by_cases h1:a<b<;>by_cases h2:a=b<;>simp[h1,h2,List.cons_lt_cons_iff]
def zlT (a b:Str):Int:=if a.l<b.l then-1 else if b.l<a.l then 1 else 0
def zkA (a b:Int):Int:=if a<b then-1 else if b<a then 1 else 0
def ztz (a b:zeT):Int:=if zlT a.name b.name≠0 then zlT a.name b.name else zkA a.arity b.arity
def zer:List Int→List Int→Int
 |[],[]=>0
 |[],_::_=> -1
 |_::_,[]=>1
 |a::as,b::bs=>if zkA a b≠0 then zkA a b else zer as bs
theorem ze1 {a b:Int}:zkA a b=0↔a=b:=by unfold zkA;split<;>(try split)<;>omega
theorem zpO {a b:Int}:zkA a b<0↔a<b:=by unfold zkA;split<;>(try split)<;>omega
theorem zeg (l:List UInt8):¬l<l:=List.lt_irrefl l
theorem zfm {a b c:List UInt8}(h:a<b)(h2:b<c):a<c:=List.lt_trans h h2
theorem zvl (a b:List UInt8):a<b∨a=b∨b<a:=by
 by_cases h:a<b
 ·exact .inl h
 by_cases h2:b<a
 ·exact .inr (.inr h2)
 exact .inr (.inl (List.le_antisymm (by simpa using h2) (by simpa using h)))
theorem zeb {a b:Str}:zlT a b=0↔a=b:=by
 unfold zlT
 constructor
 ·intro h
  rcases zvl a.l b.l with h1|h1|h1
  ·rw[if_pos h1]at h;omega
  ·cases a;cases b;simp only at h1;rw[h1]
  ·rw[if_neg (fun h2=>zeg _ (zfm h1 h2)),if_pos h1]at h;omega
 ·rintro rfl;rw[if_neg (zeg _),if_neg (zeg _)]
theorem zkB {a b:Str}:zlT a b<0↔a.l<b.l:=by
 unfold zlT
 by_cases h:a.l<b.l
 ·rw[if_pos h];simp[h]
 ·rw[if_neg h];simp only[h,iff_false];split<;>omega
theorem zml {a b:zeT}:ztz a b=0↔a.name=b.name∧a.arity=b.arity:=by
 unfold ztz
 split
 ·rename_i h
  simp only[h,false_iff]
  rintro⟨h1,_⟩
  exact h (zeb.2 h1)
 ·rename_i h
  rw[ze1,zeb.1 (Decidable.not_not.1 h)]
  simp
def ltR (a b:zeT):Prop:=a.name.l<b.name.l∨(a.name=b.name∧a.arity<b.arity)
theorem zpR {a b:zeT}:ztz a b<0↔ltR a b:=by
 unfold ztz ltR
 split
 ·rename_i h
  rw[zkB]
  constructor
  ·exact .inl
  ·rintro(h1|⟨h1,_⟩)
   ·exact h1
   ·exact absurd (zeb.2 h1) h
 ·rename_i h
  have h:=zeb.1 (Decidable.not_not.1 h)
  rw[zpO,h]
  simp only[zeg,false_or,true_and]
theorem zux {a b c:zeT}(h:ltR a b)(h2:ltR b c):ltR a c:=by
 rcases h with h|⟨h,h'⟩<;>rcases h2 with h2|⟨h2,h2'⟩
 ·exact .inl (zfm h h2)
 ·exact .inl (by rw[←h2];exact h)
 ·exact .inl (by rw[h];exact h2)
 ·exact .inr ⟨h.trans h2,by omega⟩
theorem zjR {α:Type}(p:α→Bool):∀(l:List α) (i:Nat),i≤l.length→(∀j (h:j<l.length),j<i→p l[j]=true)→(∀j (h:j<l.length),i≤j→p l[j]=false)→(l.filter p).length=i
 |[],i,hi,_,_=>by simp at hi;simp[hi]
 |a::l,0,_,_,h2=>by
  rw[List.filter_eq_nil_iff.2]
  ·rfl
  ·intro x hx
   obtain⟨j,hj,rfl⟩:=List.getElem_of_mem hx
   rw[h2 j hj (Nat.zero_le _)];simp
 |a::l,i+1,hi,h1,h2=>by
  have ha:=h1 0 (by simp) (by omega)
  simp only[List.getElem_cons_zero]at ha
  rw[List.filter_cons,if_pos ha,List.length_cons,zjR p l i (by simpa using hi) (fun j hj h=>by have:=h1 (j+1) (by simpa using hj) (by omega);simpa using this) (fun j hj h=>by have:=h2 (j+1) (by simpa using hj) (by omega);simpa using this)]
def zoL (m:zaB)(w:Str):Option zaH:=m.consts.find? fun c=>decide (c.name=w)
def zkP (m:zaB)(w:Str)(n:Int):Option zeT:=m.rels.find? fun r=>decide (r.name=w∧r.arity=n)
def zdH:List zaH→Str→Option Int
 |[],_=>none
 |e::es,w=>match zdH es w with
  |some v=>some v
  |none=>if e.name=w then some e.value else none
theorem zm5 (w:Str):∀(a b:List zaH),zdH (a++b) w=match zdH b w with|some v=>some v|none=>zdH a w
 |[],b=>by rw[List.nil_append,zdH];cases zdH b w<;>rfl
 |e::a,b=>by
  rw[List.cons_append,zdH,zm5 w a b,zdH]
  cases zdH b w<;>rfl
theorem zjY (a:List zaH)(e:zaH)(w:Str):zdH (a++[e]) w=if e.name=w then some e.value else zdH a w:=by
 rw[zm5,zdH,zdH]
 by_cases h:e.name=w
 ·rw[if_pos h,if_pos h]
 ·rw[if_neg h,if_neg h]
def ze2 (m:zaB)(w:Str):Int:=match zoL m w with|some c=>c.value|none=>0
def za1 (m:zaB)(env:List zaH)(w:Str):Int:=match zdH env w with|some v=>v|none=>ze2 m w
def zi8 (m:zaB)(w:Str)(n:Int):List (List Int):=match zkP m w n with|some r=>r.tuples|none=>[]
def zc7 (m:zaB):List Int:=(List.range m.size.toNat).map Int.ofNat
mutual
def zaT (m:zaB):zab→List zaH→Bool
 | .mk k nm ws s,env=>
  if k=1 then true
  else if k=2 then decide (ws.map (za1 m env)∈zi8 m nm ws.length)
  else if k=3 then decide (za1 m env (ws.getD 0 ⟨[]⟩)=za1 m env (ws.getD 1 ⟨[]⟩))
  else if k=4 then !(zbL m s env).getD 0 false
  else if k=5 then(zbL m s env).getD 0 false&&(zbL m s env).getD 1 false
  else if k=6 then(zbL m s env).getD 0 false||(zbL m s env).getD 1 false
  else if k=7 then !(zbL m s env).getD 0 false||(zbL m s env).getD 1 false
  else if k=8 then(zc7 m).all fun v=>(zbL m s (env++[⟨nm,v⟩])).getD 0 false
  else if k=9 then(zc7 m).any fun v=>(zbL m s (env++[⟨nm,v⟩])).getD 0 false
  else false
def zbL (m:zaB):List zab→List zaH→List Bool
 |[],_=>[]
 |f::fs,env=>zaT m f env::zbL m fs env
end
theorem zdc (m:zaB)(env:List zaH):∀l:List zab,zbL m l env=l.map fun f=>zaT m f env
 |[]=>by rw[zbL];rfl
 |f::l=>by rw[zbL,zdc m env l];rfl
mutual
def zco:zab→Nat
 | .mk k _ _ s=>zce s+if isQ k then 1 else 0
def zce:List zab→Nat
 |[]=>0
 |f::fs=>max (zco f) (zce fs)
end
mutual
def zz3 (m:zaB):zab→Bool
 | .mk k nm ws s=>(!decide (k=2)||(zkP m nm ws.length).isSome)&&zk0 m s
def zk0 (m:zaB):List zab→Bool
 |[]=>true
 |f::fs=>zz3 m f&&zk0 m fs
end
end Go.Abs
namespace Go.Abs
open Go
mutual
def vok:zab→Prop
 | .mk k _ ws s=>1≤k∧k≤9∧(k=2→ws.length≤3)∧(k=3→ws.length=2)∧(k=4∨k=8∨k=9→s.length=1)∧(k=5∨k=6∨k=7→s.length=2)∧zhA s
def zhA:List zab→Prop
 |[]=>True
 |f::fs=>vok f∧zhA fs
end
theorem zfC:∀l:List zab,zhA l↔∀f∈l,vok f
 |[]=>by rw[zhA];simp
 |f::l=>by rw[zhA,zfC l];simp
theorem zbM {f:zab}:vok f↔1≤f.kind∧f.kind≤9∧(f.kind=2→f.words.length≤3)∧(f.kind=3→f.words.length=2)∧(f.kind=4∨f.kind=8∨f.kind=9→f.subs.length=1)∧(f.kind=5∨f.kind=6∨f.kind=7→f.subs.length=2)∧zhA f.subs:=by
 cases f;rw[vok];rfl
mutual
theorem zts:∀(f:zab) (d:Int) (n:Nat),(chk false f d n).1.code=0→vok f
 | .mk k nm w s,d,n,h=>by
  rw[chk]at h
  split at h
  ·rename_i h1;exact absurd h h1
  ·rename_i h1
   have h2:=zdI (Decidable.not_not.1 h1)
   have h3:=h2.2.2.2.2
   have h4:(if k=2 then decide (w.length≤3)else if k=3 then decide (w.length=2)else decide (w.length=0))=true:=h2.2.2.2.1
   simp only[zaK]at h3
   have h5:zbn false (.mk k nm w s)=zdO k:=by unfold zbn;simp[zah]
   rw[h5]at h3
   unfold zdO at h3
   rw[vok]
   have h6:=zpJ s _ _ h
   refine⟨?_,?_,fun e=>?_,fun e=>?_,fun e=>?_,fun e=>?_,h6⟩
   ·repeat'(first|omega|split at h3)
   ·repeat'(first|omega|split at h3)
   ·rw[if_pos e]at h4;simpa using h4
   ·rw[if_neg (by omega),if_pos e]at h4;simpa using h4
   ·rw[if_neg (by omega),if_pos e]at h3;omega
   ·rw[if_neg (by omega),if_neg (by omega),if_pos e]at h3;omega
theorem zpJ:∀(fs:List zab) (d:Int) (n:Nat),(zea false fs d n).1.code=0→zhA fs
 |[],d,n,_=>by rw[zhA];trivial
 |f::fs,d,n,h=>by
  rw[zea]at h
  split at h
  ·rename_i h1;exact absurd h h1
  ·rename_i h1
   rw[zhA]
   exact⟨zts f d n (Decidable.not_not.1 h1),zpJ fs d _ h⟩
end
theorem zb4 {f:zab}(h:(zaw false f).code=0):vok f:=zts f 1 0 h
theorem zik:∀{a b:List Int},zer a b=0↔a=b
 |[],[]=>by simp[zer]
 |[],_::_=>by simp[zer]
 |_::_,[]=>by simp[zer]
 |a::as,b::bs=>by
  rw[zer]
  split
  ·rename_i h
   simp only[h,false_iff,List.cons.injEq]
   rintro⟨e,_⟩
   exact h (ze1.2 e)
  ·rename_i h
   have h:=ze1.1 (Decidable.not_not.1 h)
   rw[zik,h];simp
theorem zjK:∀{a b c:List Int},zer a b<0→zer b c≤0→zer a c<0
 |[],[],_,h,_=>by simp[zer]at h
 |[],_::_,[],_,h=>by simp[zer]at h
 |[],_::_,_::_,_,_=>by simp[zer]
 |_::_,[],_,h,_=>by simp[zer]at h
 |_::_,_::_,[],_,h=>by simp[zer]at h
 |a::as,b::bs,c::cs,h,h2=>by
  rw[zer]at h h2 ⊢
  have key:=fun h1 h2=>zjK (a:=as) (b:=bs) (c:=cs) h1 h2
  unfold zkA at*
  repeat'(first|omega|exact key h h2|split at h|split at h2|split)
  all_goals(first|omega|exact key h h2|skip)
structure zAw (m:zaB):Prop where
 c:∀i j (hi:i<m.consts.length) (hj:j<m.consts.length),i<j→m.consts[i].name.l<m.consts[j].name.l
 r:∀i j (hi:i<m.rels.length) (hj:j<m.rels.length),i<j→ltR m.rels[i] m.rels[j]
 t:∀r∈m.rels,∀i j (hi:i<r.tuples.length) (hj:j<r.tuples.length),i<j→zer r.tuples[i] r.tuples[j]<0
 s1:1≤m.size
 s6:m.size≤6
 lc:m.consts.length≤10000000
 lr:m.rels.length≤300
theorem zui {m:zaB}{p:Int→Bool}(h:∀v:Nat,(v:Int)<m.size→p v=true):(zc7 m).all p=true:=by
 rw[List.all_eq_true]
 intro x hx
 unfold zc7 at hx
 obtain⟨v,hv,rfl⟩:=List.mem_map.1 hx
 exact h v (by have:=List.mem_range.1 hv;omega)
theorem ziA {m:zaB}{v:Nat}(h:(v:Int)<m.size):(v:Int)∈zc7 m:=List.mem_map.2 ⟨v,List.mem_range.2 (by omega),rfl⟩
theorem zk4 {m:zaB}{p:Int→Bool}{v:Nat}(h:(v:Int)<m.size)(hp:p v=false):(zc7 m).all p=false:=by
 cases ha:(zc7 m).all p with
 |false=>rfl
 |true=>rw[List.all_eq_true.1 ha _ (ziA h)]at hp;cases hp
theorem zuj {m:zaB}{p:Int→Bool}{v:Nat}(h:(v:Int)<m.size)(hp:p v=true):(zc7 m).any p=true:=List.any_eq_true.2 ⟨_,ziA h,hp⟩
theorem zk5 {m:zaB}{p:Int→Bool}(h:∀v:Nat,(v:Int)<m.size→p v=false):(zc7 m).any p=false:=by
 cases ha:(zc7 m).any p with
 |false=>rfl
 |true=>
  obtain⟨x,hx,hp⟩:=List.any_eq_true.1 ha
  unfold zc7 at hx
  obtain⟨v,hv,rfl⟩:=List.mem_map.1 hx
  have:=h v (by have:=List.mem_range.1 hv;omega)
  rw[show(Int.ofNat v:Int)=(v:Int)from rfl,this]at hp;cases hp
end Go.Abs
