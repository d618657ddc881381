import Derived.Test.YtkkffhphodngkaaDoorLW
set_option linter.unusedSimpArgs false
namespace Go.Abs
open Go
structure zaF where
 name:Str
 value:Int
deriving DecidableEq
structure zdq where
 name:Str
 arity:Int
 tuples:List (List Int)
deriving DecidableEq
structure zal where
 size:Int
 consts:List zaF
 rels:List zdq
deriving DecidableEq
instance:Inhabited zaF:=⟨⟨⟨[]⟩,0⟩⟩
instance:Inhabited zdq:=⟨⟨⟨[]⟩,0,[]⟩⟩
@[go_sem] theorem zat {c:zaF}:zaF.mk c.name c.value=c:=by cases c;rfl
@[go_sem] theorem zaq {r:zdq}:zdq.mk r.name r.arity r.tuples=r:=by cases r;rfl
@[go_sem] theorem zab {m:zal}:zal.mk m.size m.consts m.rels=m:=by cases m;rfl
instance:Enc zaF:=⟨fun c=> .agg [.s c.name.l,.i .i64 c.value],fun x=>match x with| .agg [.s a,.i _ n]=>⟨⟨a⟩,n⟩|_=>default,fun c=>by cases c;rfl⟩
@[go_sem] theorem zlq {c:zaF}:enc c= .agg [.s c.name.l,.i .i64 c.value]:=rfl
@[go_sem] theorem zfO {a i n}:dec (α:=zaF) (.agg [.s a,.i i n])=⟨⟨a⟩,n⟩:=rfl
instance:Kc zaF 2:=⟨fun _=>rfl⟩
@[go_sem] theorem zw4 {l:List zaF}:zbs (l.map enc) 2=True:=eq_true (zdF l)
@[go_sem] theorem zvy {l:List zaF}:(zae (l.map enc)).all zcx=true:=by
 rw[List.all_eq_true]
 intro d hd
 simp only[zae,List.mem_flatMap,List.mem_map]at hd
 obtain⟨_,⟨a,_,rfl⟩,x,hx,rfl⟩:=hd
 simp only[zlq,FD.cells,List.mem_cons,List.not_mem_nil,or_false]at hx
 rcases hx with rfl|rfl<;>rfl
instance:Enc zdq:=⟨fun r=> .agg [.s r.name.l,.i .i64 r.arity,.sl (r.tuples.map enc)],fun x=>match x with| .agg [.s a,.i _ n,.sl t]=>⟨⟨a⟩,n,t.map dec⟩|_=>default,fun r=>by
 cases r;simp only[zdi]⟩
@[go_sem] theorem zj2 {r:zdq}:enc r= .agg [.s r.name.l,.i .i64 r.arity,.sl (r.tuples.map enc)]:=rfl
@[go_sem] theorem zCF {a i n t}:dec (α:=zdq) (.agg [.s a,.i i n,.sl t])=⟨⟨a⟩,n,dec (.sl t)⟩:=rfl
instance:Kc zdq 3:=⟨fun _=>rfl⟩
@[go_sem] theorem zAc {l:List zdq}:zbs (l.map enc) 3=True:=eq_true (zdF l)
@[go_sem] theorem zx3 {l:List zdq}:(zae (l.map enc)).all zcx=true:=by
 rw[List.all_eq_true]
 intro d hd
 simp only[zae,List.mem_flatMap,List.mem_map]at hd
 obtain⟨_,⟨a,_,rfl⟩,x,hx,rfl⟩:=hd
 simp only[zj2,FD.cells,List.mem_cons,List.not_mem_nil,or_false]at hx
 rcases hx with rfl|rfl|rfl<;>rfl
instance:Enc zal:=⟨fun m=> .agg [.i .i64 m.size,.sl (m.consts.map enc),.sl (m.rels.map enc)],fun x=>match x with| .agg [.i _ n,.sl c,.sl r]=>⟨n,c.map dec,r.map dec⟩|_=>⟨0,[],[]⟩,fun m=>by
 cases m;simp only[zdi]⟩
@[go_sem] theorem zb0 {m:zal}:enc m= .agg [.i .i64 m.size,.sl (m.consts.map enc),.sl (m.rels.map enc)]:=rfl
@[go_sem] theorem zy9 {i n c r}:dec (α:=zal) (.agg [.i i n,.sl c,.sl r])=⟨n,dec (.sl c),dec (.sl r)⟩:=rfl
theorem za6:∀x y:List UInt8,Op.bytesLess x y=decide (x<y)
 |[],[]=>by simp[Op.bytesLess]
 |_::_,[]=>by simp[Op.bytesLess]
 |[],_::_=>by simp[Op.bytesLess]
 |a::x,b::y=>by
  rw[Op.bytesLess,za6 x y]
  by_cases h1:a<b<;>by_cases h2:a=b<;>simp[h1,h2,List.cons_lt_cons_iff]
def zkN (a b:Str):Int:=if a.l<b.l then-1 else if b.l<a.l then 1 else 0
def zjS (a b:Int):Int:=if a<b then-1 else if b<a then 1 else 0
def zoe (a b:zdq):Int:=if zkN a.name b.name≠0 then zkN a.name b.name else zjS a.arity b.arity
def zc9:List Int→List Int→Int
 |[],[]=>0
 |[],_::_=> -1
 |_::_,[]=>1
 |a::as,b::bs=>if zjS a b≠0 then zjS a b else zc9 as bs
theorem zex {a b:Int}:zjS a b=0↔a=b:=by unfold zjS;split<;>(try split)<;>omega
theorem zob {a b:Int}:zjS a b<0↔a<b:=by unfold zjS;split<;>(try split)<;>omega
theorem zcu (l:List UInt8):¬l<l:=List.lt_irrefl l
theorem zdC {a b c:List UInt8}(h:a<b)(h2:b<c):a<c:=List.lt_trans h h2
theorem zsU (a b:List UInt8):a<b∨a=b∨b<a:=by
 by_cases h:a<b
 ·exact .inl h
 by_cases h2:b<a
 ·exact .inr (.inr h2)
 exact .inr (.inl (List.le_antisymm (by simpa using h2) (by simpa using h)))
theorem zdS {a b:Str}:zkN a b=0↔a=b:=by
 unfold zkN
 constructor
 ·intro h
  rcases zsU a.l b.l with h1|h1|h1
  ·rw[if_pos h1]at h;omega
  ·cases a;cases b;simp only at h1;rw[h1]
  ·rw[if_neg (fun h2=>zcu _ (zdC h1 h2)),if_pos h1]at h;omega
 ·rintro rfl;rw[if_neg (zcu _),if_neg (zcu _)]
theorem zjU {a b:Str}:zkN a b<0↔a.l<b.l:=by
 unfold zkN
 by_cases h:a.l<b.l
 ·rw[if_pos h];simp[h]
 ·rw[if_neg h];simp only[h,iff_false];split<;>omega
theorem zk4 {a b:zdq}:zoe a b=0↔a.name=b.name∧a.arity=b.arity:=by
 unfold zoe
 split
 ·rename_i h
  simp only[h,false_iff]
  rintro⟨h1,_⟩
  exact h (zdS.2 h1)
 ·rename_i h
  rw[zex,zdS.1 (Decidable.not_not.1 h)]
  simp
def ltR (a b:zdq):Prop:=a.name.l<b.name.l∨(a.name=b.name∧a.arity<b.arity)
theorem zjT {a b:zdq}:zoe a b<0↔ltR a b:=by
 unfold zoe ltR
 split
 ·rename_i h
  rw[zjU]
  constructor
  ·exact .inl
  ·rintro(h1|⟨h1,_⟩)
   ·exact h1
   ·exact absurd (zdS.2 h1) h
 ·rename_i h
  have h:=zdS.1 (Decidable.not_not.1 h)
  rw[zob,h]
  simp only[zcu,false_or,true_and]
theorem zlT {a b c:zdq}(h:ltR a b)(h2:ltR b c):ltR a c:=by
 rcases h with h|⟨h,h'⟩<;>rcases h2 with h2|⟨h2,h2'⟩
 ·exact .inl (zdC h h2)
 ·exact .inl (by rw[←h2];exact h)
 ·exact .inl (by rw[h];exact h2)
 ·exact .inr ⟨h.trans h2,by omega⟩
theorem zjg {α:Type}(p:α→Bool):∀(l:List α) (i:Nat),i≤l.length→(∀j (h:j<l.length),j<i→p l[j]=true)→(∀j (h:j<l.length),i≤j→p l[j]=false)→(l.filter p).length=i
 |[],i,hi,_,_=>by simp at hi;simp[hi]
 |a::l,0,_,_,h2=>by
  rw[List.filter_eq_nil_iff.2]
  ·rfl
  ·intro x hx
   obtain⟨j,hj,rfl⟩:=List.getElem_of_mem hx
   rw[h2 j hj (Nat.zero_le _)];simp
 |a::l,i+1,hi,h1,h2=>by
  have ha:=h1 0 (by simp) (by omega)
  simp only[List.getElem_cons_zero]at ha
  rw[List.filter_cons,if_pos ha,List.length_cons,zjg p l i (by simpa using hi) (fun j hj h=>by have:=h1 (j+1) (by simpa using hj) (by omega);simpa using this) (fun j hj h=>by have:=h2 (j+1) (by simpa using hj) (by omega);simpa using this)]
def zct (m:zal)(w:Str):Option zaF:=m.consts.find? fun c=>decide (c.name=w)
def zeH (m:zal)(w:Str)(n:Int):Option zdq:=m.rels.find? fun r=>decide (r.name=w∧r.arity=n)
def zcL:List zaF→Str→Option Int
 |[],_=>none
 |e::es,w=>match zcL es w with
  |some v=>some v
  |none=>if e.name=w then some e.value else none
theorem zid (w:Str):∀(a b:List zaF),zcL (a++b) w=match zcL b w with|some v=>some v|none=>zcL a w
 |[],b=>by rw[List.nil_append,zcL];cases zcL b w<;>rfl
 |e::a,b=>by
  rw[List.cons_append,zcL,zid w a b,zcL]
  cases zcL b w<;>rfl
theorem zgC (a:List zaF)(e:zaF)(w:Str):zcL (a++[e]) w=if e.name=w then some e.value else zcL a w:=by
 rw[zid,zcL,zcL]
 by_cases h:e.name=w
 ·rw[if_pos h,if_pos h]
 ·rw[if_neg h,if_neg h]
def zfb (m:zal)(w:Str):Int:=match zct m w with|some c=>c.value|none=>0
def zbW (m:zal)(env:List zaF)(w:Str):Int:=match zcL env w with|some v=>v|none=>zfb m w
def zmx (m:zal)(w:Str)(n:Int):List (List Int):=match zeH m w n with|some r=>r.tuples|none=>[]
def zee (m:zal):List Int:=(List.range m.size.toNat).map Int.ofNat
mutual
def zbY (m:zal):zaf→List zaF→Bool
 | .mk k nm ws s,env=>
  if k=1 then true
  else if k=2 then decide (ws.map (zbW m env)∈zmx m nm ws.length)
  else if k=3 then decide (zbW m env (ws.getD 0 ⟨[]⟩)=zbW m env (ws.getD 1 ⟨[]⟩))
  else if k=4 then !(zbC m s env).getD 0 false
  else if k=5 then(zbC m s env).getD 0 false&&(zbC m s env).getD 1 false
  else if k=6 then(zbC m s env).getD 0 false||(zbC m s env).getD 1 false
  else if k=7 then !(zbC m s env).getD 0 false||(zbC m s env).getD 1 false
  else if k=8 then(zee m).all fun v=>(zbC m s (env++[⟨nm,v⟩])).getD 0 false
  else if k=9 then(zee m).any fun v=>(zbC m s (env++[⟨nm,v⟩])).getD 0 false
  else false
def zbC (m:zal):List zaf→List zaF→List Bool
 |[],_=>[]
 |f::fs,env=>zbY m f env::zbC m fs env
end
mutual
def zbf:zaf→Nat
 | .mk k _ _ s=>zbL s+if isQ k then 1 else 0
def zbL:List zaf→Nat
 |[]=>0
 |f::fs=>max (zbf f) (zbL fs)
end
mutual
def zgZ (m:zal):zaf→Bool
 | .mk k nm ws s=>(!decide (k=2)||(zeH m nm ws.length).isSome)&&ze8 m s
def ze8 (m:zal):List zaf→Bool
 |[]=>true
 |f::fs=>zgZ m f&&ze8 m fs
end
def zoA (m:zal)(f:zaf):Bool:= !((cst f []).all (fun c=>(zct m c).isSome)&&zgZ m f)
def zcn (size:Int)(prev:Option zaF)(c:zaF):Int:=
 if zax c.name=false then 10 else if(match prev with|some p=> !decide (p.name.l<c.name.l)|none=>false)=true then 13 else if c.value<0∨size≤c.value then 3 else 0
def zfw (size arity:Int)(prev:Option (List Int))(t:List Int):Int:=
 if(t.length:Int)≠arity then 9 else if t.any (fun v=>decide (v<0∨size≤v))=true then 3 else if(match prev with|some p=>decide (0≤zc9 p t)|none=>false)=true then 13 else 0
def zsE (size arity:Int):Option (List Int)→List (List Int)→Int
 |_,[]=>0
 |p,t::ts=>if zfw size arity p t≠0 then zfw size arity p t else zsE size arity (some t) ts
def zjt (size:Int)(prev:Option zdq)(r:zdq):Int:=
 if zax r.name=false then 10 else if r.arity<0∨3<r.arity then 3 else if(match prev with|some p=>decide (0≤zoe p r)|none=>false)=true then 13 else zsE size r.arity none r.tuples
def zqr (size:Int):Option zaF→List zaF→Nat→zcD
 |_,[],_=>⟨0,0⟩
 |p,c::cs,i=>if zcn size p c≠0 then⟨zcn size p c,i⟩else zqr size (some c) cs (i+1)
def zsD (size:Int):Option zdq→List zdq→Nat→zcD
 |_,[],_=>⟨0,0⟩
 |p,r::rs,i=>if zjt size p r≠0 then⟨zjt size p r,i⟩else zsD size (some r) rs (i+1)
def zbt (m:zal):zcD:=
 if m.size<1∨6<m.size then⟨3,0⟩else if 300<m.consts.length∨300<m.rels.length then⟨2,0⟩
 else if(zqr m.size none m.consts 0).code≠0 then zqr m.size none m.consts 0 else zsD m.size none m.rels 0
end Go.Abs
namespace Go.Abs
open Go
mutual
def vok:zaf→Prop
 | .mk k _ ws s=>1≤k∧k≤9∧(k=2→ws.length≤3)∧(k=3→ws.length=2)∧(k=4∨k=8∨k=9→s.length=1)∧(k=5∨k=6∨k=7→s.length=2)∧zkO s
def zkO:List zaf→Prop
 |[]=>True
 |f::fs=>vok f∧zkO fs
end
theorem ze5:∀l:List zaf,zkO l↔∀f∈l,vok f
 |[]=>by rw[zkO];simp
 |f::l=>by rw[zkO,ze5 l];simp
theorem zdm {f:zaf}:vok f↔1≤f.kind∧f.kind≤9∧(f.kind=2→f.words.length≤3)∧(f.kind=3→f.words.length=2)∧(f.kind=4∨f.kind=8∨f.kind=9→f.subs.length=1)∧(f.kind=5∨f.kind=6∨f.kind=7→f.subs.length=2)∧zkO f.subs:=by
 cases f;rw[vok];rfl
mutual
theorem zrp:∀(f:zaf) (d:Int) (n:Nat),(chk false f d n).1.code=0→vok f
 | .mk k nm w s,d,n,h=>by
  rw[chk]at h
  split at h
  ·rename_i h1;exact absurd h h1
  ·rename_i h1
   have h2:=zdk (Decidable.not_not.1 h1)
   have h3:=h2.2.2.2.2
   have h4:(if k=2 then decide (w.length≤3)else if k=3 then decide (w.length=2)else decide (w.length=0))=true:=h2.2.2.2.1
   simp only[zaW]at h3
   have h5:zbl false (.mk k nm w s)=zd3 k:=by unfold zbl;simp[zaz]
   rw[h5]at h3
   unfold zd3 at h3
   rw[vok]
   have h6:=zn9 s _ _ h
   refine⟨?_,?_,fun e=>?_,fun e=>?_,fun e=>?_,fun e=>?_,h6⟩
   ·repeat'(first|omega|split at h3)
   ·repeat'(first|omega|split at h3)
   ·rw[if_pos e]at h4;simpa using h4
   ·rw[if_neg (by omega),if_pos e]at h4;simpa using h4
   ·rw[if_neg (by omega),if_pos e]at h3;omega
   ·rw[if_neg (by omega),if_neg (by omega),if_pos e]at h3;omega
theorem zn9:∀(fs:List zaf) (d:Int) (n:Nat),(zek false fs d n).1.code=0→zkO fs
 |[],d,n,_=>by rw[zkO];trivial
 |f::fs,d,n,h=>by
  rw[zek]at h
  split at h
  ·rename_i h1;exact absurd h h1
  ·rename_i h1
   rw[zkO]
   exact⟨zrp f d n (Decidable.not_not.1 h1),zn9 fs d _ h⟩
end
theorem zdR {f:zaf}(h:(zaA false f).code=0):vok f:=zrp f 1 0 h
theorem zhT:∀{a b:List Int},zc9 a b=0↔a=b
 |[],[]=>by simp[zc9]
 |[],_::_=>by simp[zc9]
 |_::_,[]=>by simp[zc9]
 |a::as,b::bs=>by
  rw[zc9]
  split
  ·rename_i h
   simp only[h,false_iff,List.cons.injEq]
   rintro⟨e,_⟩
   exact h (zex.2 e)
  ·rename_i h
   have h:=zex.1 (Decidable.not_not.1 h)
   rw[zhT,h];simp
theorem zgu:∀{a b c:List Int},zc9 a b<0→zc9 b c≤0→zc9 a c<0
 |[],[],_,h,_=>by simp[zc9]at h
 |[],_::_,[],_,h=>by simp[zc9]at h
 |[],_::_,_::_,_,_=>by simp[zc9]
 |_::_,[],_,h,_=>by simp[zc9]at h
 |_::_,_::_,[],_,h=>by simp[zc9]at h
 |a::as,b::bs,c::cs,h,h2=>by
  rw[zc9]at h h2 ⊢
  have key:=fun h1 h2=>zgu (a:=as) (b:=bs) (c:=cs) h1 h2
  unfold zjS at*
  repeat'(first|omega|exact key h h2|split at h|split at h2|split)
  all_goals(first|omega|exact key h h2|skip)
structure zsd (m:zal):Prop where
 c:∀i j (hi:i<m.consts.length) (hj:j<m.consts.length),i<j→m.consts[i].name.l<m.consts[j].name.l
 r:∀i j (hi:i<m.rels.length) (hj:j<m.rels.length),i<j→ltR m.rels[i] m.rels[j]
 t:∀r∈m.rels,∀i j (hi:i<r.tuples.length) (hj:j<r.tuples.length),i<j→zc9 r.tuples[i] r.tuples[j]<0
 s1:1≤m.size
 s6:m.size≤6
 lc:m.consts.length≤10000000
 lr:m.rels.length≤300
theorem zrT {m:zal}{p:Int→Bool}(h:∀v:Nat,(v:Int)<m.size→p v=true):(zee m).all p=true:=by
 rw[List.all_eq_true]
 intro x hx
 unfold zee at hx
 obtain⟨v,hv,rfl⟩:=List.mem_map.1 hx
 exact h v (by have:=List.mem_range.1 hv;omega)
theorem zlP {m:zal}{v:Nat}(h:(v:Int)<m.size):(v:Int)∈zee m:=List.mem_map.2 ⟨v,List.mem_range.2 (by omega),rfl⟩
theorem zki {m:zal}{p:Int→Bool}{v:Nat}(h:(v:Int)<m.size)(hp:p v=false):(zee m).all p=false:=by
 cases ha:(zee m).all p with
 |false=>rfl
 |true=>rw[List.all_eq_true.1 ha _ (zlP h)]at hp;cases hp
theorem zrU {m:zal}{p:Int→Bool}{v:Nat}(h:(v:Int)<m.size)(hp:p v=true):(zee m).any p=true:=List.any_eq_true.2 ⟨_,zlP h,hp⟩
theorem zkj {m:zal}{p:Int→Bool}(h:∀v:Nat,(v:Int)<m.size→p v=false):(zee m).any p=false:=by
 cases ha:(zee m).any p with
 |false=>rfl
 |true=>
  obtain⟨x,hx,hp⟩:=List.any_eq_true.1 ha
  unfold zee at hx
  obtain⟨v,hv,rfl⟩:=List.mem_map.1 hx
  have:=h v (by have:=List.mem_range.1 hv;omega)
  rw[show(Int.ofNat v:Int)=(v:Int)from rfl,this]at hp;cases hp
end Go.Abs
