import Derived.Test.YtdlioodgfopmfaaGreatDoorLW
set_option linter.unusedSimpArgs false
namespace Go.Abs
open Go
structure zdg where
 name:Str
 value:Int
deriving DecidableEq
structure zrC where
 name:Str
 arity:Int
 tuples:List (List Int)
deriving DecidableEq
structure zdT where
 size:Int
 consts:List zdg
 rels:List zrC
deriving DecidableEq
instance:Inhabited zdg:=⟨⟨⟨[]⟩,0⟩⟩
instance:Inhabited zrC:=⟨⟨⟨[]⟩,0,[]⟩⟩
@[go_sem] theorem zAI {c:zdg}:zdg.mk c.name c.value=c:=by cases c;rfl
@[go_sem] theorem zFM {r:zrC}:zrC.mk r.name r.arity r.tuples=r:=by cases r;rfl
@[go_sem] theorem zBR {m:zdT}:zdT.mk m.size m.consts m.rels=m:=by cases m;rfl
instance:Enc zdg:=⟨fun c=> .agg [.s c.name.l,.i .i64 c.value],fun x=>match x with| .agg [.s a,.i _ n]=>⟨⟨a⟩,n⟩|_=>default,fun c=>by cases c;rfl⟩
@[go_sem] theorem zsJ {c:zdg}:enc c= .agg [.s c.name.l,.i .i64 c.value]:=rfl
@[go_sem] theorem zAK {a i n}:dec (α:=zdg) (.agg [.s a,.i i n])=⟨⟨a⟩,n⟩:=rfl
instance:Kc zdg 2:=⟨fun _=>rfl⟩
@[go_sem] theorem zyS {l:List zdg}:zbC (l.map enc) 2=True:=eq_true (zdW l)
@[go_sem] theorem zxh {l:List zdg}:(zaf (l.map enc)).all zcL=true:=by
 rw[List.all_eq_true]
 intro d hd
 simp only[zaf,List.mem_flatMap,List.mem_map]at hd
 obtain⟨_,⟨a,_,rfl⟩,x,hx,rfl⟩:=hd
 simp only[zsJ,FD.cells,List.mem_cons,List.not_mem_nil,or_false]at hx
 rcases hx with rfl|rfl<;>rfl
instance:Enc zrC:=⟨fun r=> .agg [.s r.name.l,.i .i64 r.arity,.sl (r.tuples.map enc)],fun x=>match x with| .agg [.s a,.i _ n,.sl t]=>⟨⟨a⟩,n,t.map dec⟩|_=>default,fun r=>by
 cases r;simp only[zdy]⟩
@[go_sem] theorem zyf {r:zrC}:enc r= .agg [.s r.name.l,.i .i64 r.arity,.sl (r.tuples.map enc)]:=rfl
@[go_sem] theorem zEi {a i n t}:dec (α:=zrC) (.agg [.s a,.i i n,.sl t])=⟨⟨a⟩,n,dec (.sl t)⟩:=rfl
instance:Kc zrC 3:=⟨fun _=>rfl⟩
@[go_sem] theorem zBN {l:List zrC}:zbC (l.map enc) 3=True:=eq_true (zdW l)
@[go_sem] theorem zzM {l:List zrC}:(zaf (l.map enc)).all zcL=true:=by
 rw[List.all_eq_true]
 intro d hd
 simp only[zaf,List.mem_flatMap,List.mem_map]at hd
 obtain⟨_,⟨a,_,rfl⟩,x,hx,rfl⟩:=hd
 simp only[zyf,FD.cells,List.mem_cons,List.not_mem_nil,or_false]at hx
 rcases hx with rfl|rfl|rfl<;>rfl
instance:Enc zdT:=⟨fun m=> .agg [.i .i64 m.size,.sl (m.consts.map enc),.sl (m.rels.map enc)],fun x=>match x with| .agg [.i _ n,.sl c,.sl r]=>⟨n,c.map dec,r.map dec⟩|_=>⟨0,[],[]⟩,fun m=>by
 cases m;simp only[zdy]⟩
@[go_sem] theorem zAO {m:zdT}:enc m= .agg [.i .i64 m.size,.sl (m.consts.map enc),.sl (m.rels.map enc)]:=rfl
@[go_sem] theorem zAL {i n c r}:dec (α:=zdT) (.agg [.i i n,.sl c,.sl r])=⟨n,dec (.sl c),dec (.sl r)⟩:=rfl
def zF9 (a b:Int):Int:=if a<b then-1 else if b<a then 1 else 0
def zGa:List Int→List Int→Int
 |[],[]=>0
 |[],_::_=> -1
 |_::_,[]=>1
 |a::as,b::bs=>if zF9 a b≠0 then zF9 a b else zGa as bs
def ltR (a b:zrC):Prop:=a.name.l<b.name.l∨(a.name=b.name∧a.arity<b.arity)
def zEm (m:zdT)(w:Str):Option zdg:=m.consts.find? fun c=>decide (c.name=w)
def zAQ (m:zdT)(w:Str)(n:Int):Option zrC:=m.rels.find? fun r=>decide (r.name=w∧r.arity=n)
def zfO:List zdg→Str→Option Int
 |[],_=>none
 |e::es,w=>match zfO es w with
  |some v=>some v
  |none=>if e.name=w then some e.value else none
theorem zmF (w:Str):∀(a b:List zdg),zfO (a++b) w=match zfO b w with|some v=>some v|none=>zfO a w
 |[],b=>by rw[List.nil_append,zfO];cases zfO b w<;>rfl
 |e::a,b=>by
  rw[List.cons_append,zfO,zmF w a b,zfO]
  cases zfO b w<;>rfl
theorem zqR (a:List zdg)(e:zdg)(w:Str):zfO (a++[e]) w=if e.name=w then some e.value else zfO a w:=by
 rw[zmF,zfO,zfO]
 by_cases h:e.name=w
 ·rw[if_pos h,if_pos h]
 ·rw[if_neg h,if_neg h]
def zw9 (m:zdT)(w:Str):Int:=match zEm m w with|some c=>c.value|none=>0
def zgz (m:zdT)(env:List zdg)(w:Str):Int:=match zfO env w with|some v=>v|none=>zw9 m w
def zFV (m:zdT)(w:Str)(n:Int):List (List Int):=match zAQ m w n with|some r=>r.tuples|none=>[]
def zAZ (m:zdT):List Int:=(List.range m.size.toNat).map Int.ofNat
mutual
def zzq (m:zdT):zac→List zdg→Bool
 | .mk k nm ws s,env=>
  if k=1 then true
  else if k=2 then decide (ws.map (zgz m env)∈zFV m nm ws.length)
  else if k=3 then decide (zgz m env (ws.getD 0 ⟨[]⟩)=zgz m env (ws.getD 1 ⟨[]⟩))
  else if k=4 then !(zeP m s env).getD 0 false
  else if k=5 then(zeP m s env).getD 0 false&&(zeP m s env).getD 1 false
  else if k=6 then(zeP m s env).getD 0 false||(zeP m s env).getD 1 false
  else if k=7 then !(zeP m s env).getD 0 false||(zeP m s env).getD 1 false
  else if k=8 then(zAZ m).all fun v=>(zeP m s (env++[⟨nm,v⟩])).getD 0 false
  else if k=9 then(zAZ m).any fun v=>(zeP m s (env++[⟨nm,v⟩])).getD 0 false
  else false
def zeP (m:zdT):List zac→List zdg→List Bool
 |[],_=>[]
 |f::fs,env=>zzq m f env::zeP m fs env
end
mutual
def ztp:zac→Nat
 | .mk k _ _ s=>zjW s+if isQ k then 1 else 0
def zjW:List zac→Nat
 |[]=>0
 |f::fs=>max (ztp f) (zjW fs)
end
mutual
def zAX (m:zdT):zac→Bool
 | .mk k nm ws s=>(!decide (k=2)||(zAQ m nm ws.length).isSome)&&zqO m s
def zqO (m:zdT):List zac→Bool
 |[]=>true
 |f::fs=>zAX m f&&zqO m fs
end
end Go.Abs
namespace Go.Abs
open Go
mutual
def vok:zac→Prop
 | .mk k _ ws s=>1≤k∧k≤9∧(k=2→ws.length≤3)∧(k=3→ws.length=2)∧(k=4∨k=8∨k=9→s.length=1)∧(k=5∨k=6∨k=7→s.length=2)∧zkc s
def zkc:List zac→Prop
 |[]=>True
 |f::fs=>vok f∧zkc fs
end
theorem zly:∀l:List zac,zkc l↔∀f∈l,vok f
 |[]=>by rw[zkc];simp
 |f::l=>by rw[zkc,zly l];simp
theorem zbf {f:zac}:vok f↔1≤f.kind∧f.kind≤9∧(f.kind=2→f.words.length≤3)∧(f.kind=3→f.words.length=2)∧(f.kind=4∨f.kind=8∨f.kind=9→f.subs.length=1)∧(f.kind=5∨f.kind=6∨f.kind=7→f.subs.length=2)∧zkc f.subs:=by
 cases f;rw[vok];rfl
mutual
theorem zsk:∀(f:zac) (d:Int) (n:Nat),(chk false f d n).1.code=0→vok f
 | .mk k nm w s,d,n,h=>by
  rw[chk]at h
  split at h
  ·rename_i h1;exact absurd h h1
  ·rename_i h1
   have h2:=zdB (Decidable.not_not.1 h1)
   have h3:=h2.2.2.2.2
   have h4:(if k=2 then decide (w.length≤3)else if k=3 then decide (w.length=2)else decide (w.length=0))=true:=h2.2.2.2.1
   simp only[za9]at h3
   have h5:zbt false (.mk k nm w s)=zdH k:=by unfold zbt;simp[zak]
   rw[h5]at h3
   unfold zdH at h3
   rw[vok]
   have h6:=zo0 s _ _ h
   refine⟨?_,?_,fun e=>?_,fun e=>?_,fun e=>?_,fun e=>?_,h6⟩
   ·repeat'(first|omega|split at h3)
   ·repeat'(first|omega|split at h3)
   ·rw[if_pos e]at h4;simpa using h4
   ·rw[if_neg (by omega),if_pos e]at h4;simpa using h4
   ·rw[if_neg (by omega),if_pos e]at h3;omega
   ·rw[if_neg (by omega),if_neg (by omega),if_pos e]at h3;omega
theorem zo0:∀(fs:List zac) (d:Int) (n:Nat),(zeH false fs d n).1.code=0→zkc fs
 |[],d,n,_=>by rw[zkc];trivial
 |f::fs,d,n,h=>by
  rw[zeH]at h
  split at h
  ·rename_i h1;exact absurd h h1
  ·rename_i h1
   rw[zkc]
   exact⟨zsk f d n (Decidable.not_not.1 h1),zo0 fs d _ h⟩
end
theorem zqd {f:zac}(h:(zaE false f).code=0):vok f:=zsk f 1 0 h
structure zKm (m:zdT):Prop where
 c:∀i j (hi:i<m.consts.length) (hj:j<m.consts.length),i<j→m.consts[i].name.l<m.consts[j].name.l
 r:∀i j (hi:i<m.rels.length) (hj:j<m.rels.length),i<j→ltR m.rels[i] m.rels[j]
 t:∀r∈m.rels,∀i j (hi:i<r.tuples.length) (hj:j<r.tuples.length),i<j→zGa r.tuples[i] r.tuples[j]<0
 s1:1≤m.size
 s6:m.size≤6
 lc:m.consts.length≤300
 lr:m.rels.length≤300
end Go.Abs
