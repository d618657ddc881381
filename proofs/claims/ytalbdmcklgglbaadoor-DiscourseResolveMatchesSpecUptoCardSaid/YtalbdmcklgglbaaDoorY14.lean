/- several texts of this proof in one; no conditions -/
import Derived.Test.YtalbdmcklgglbaaDoorY10
import Derived.Test.YtalbdmcklgglbaaDoorY13
set_option linter.unusedSimpArgs false
namespace Go.Abs
open Go
mutual
def ziM:Box→Nat
 | .mk _ cs=>1+za4 cs
def zke:zal→Nat
 | .mk _ _ _ bs=>1+zcg bs
def zcg:List Box→Nat
 |[]=>0
 |b::bs=>ziM b+zcg bs
def za4:List zal→Nat
 |[]=>0
 |c::cs=>zke c+za4 cs
end
mutual
def zdA:Box→List Str
 | .mk r cs=>r++zba cs
def zh7:zal→List Str
 | .mk _ _ _ bs=>zbU bs
def zbU:List Box→List Str
 |[]=>[]
 |b::bs=>zdA b++zbU bs
def zba:List zal→List Str
 |[]=>[]
 |c::cs=>zh7 c++zba cs
end
mutual
def zfU:Box→Int→Int→Prop
 | .mk r cs,d,m=>d≤10∧(r.length:Int)≤m∧(∀x∈r,zai x=true)∧zaU r cs d
def zgQ:List Str→zal→Int→Prop
 |r,.mk k nm f bs,d=>zbb (.mk k nm f bs) r=0∧zbd bs (d+1) (if k=6 then 2 else 200)
def zbd:List Box→Int→Int→Prop
 |[],_,_=>True
 |b::bs,d,m=>zfU b d m∧zbd bs d m
def zaU:List Str→List zal→Int→Prop
 |_,[],_=>True
 |r,c::cs,d=>zgQ r c d∧zaU r cs d
end
theorem zru (b:Box):ziM b=1+za4 b.conds:=by cases b;rw[ziM];rfl
theorem zrv (c:zal):zke c=1+zcg c.boxes:=by cases c;rw[zke];rfl
theorem zjd (b:Box):zdA b=b.refs++zba b.conds:=by cases b;rw[zdA];rfl
theorem zmi (c:zal):zh7 c=zbU c.boxes:=by cases c;rw[zh7];rfl
theorem zrA (b:Box):ze9 b=zdr b.conds:=by cases b;rw[ze9];rfl
theorem zrB (c:zal):zwu c=(if 4<c.kind then 1 else 0)+zeS c.boxes:=by cases c;rw[zwu];rfl
theorem zcr {b:Box}{d m:Int}:zfU b d m↔d≤10∧(b.refs.length:Int)≤m∧(∀x∈b.refs,zai x=true)∧zaU b.refs b.conds d:=by cases b;rw[zfU];rfl
theorem zbI {r:List Str}{c:zal}{d:Int}:zgQ r c d↔zbb c r=0∧zbd c.boxes (d+1) (if c.kind=6 then 2 else 200):=by cases c;rw[zgQ];rfl
theorem zem:∀a b:List zal,za4 (a++b)=za4 a+za4 b
 |[],b=>by rw[List.nil_append,za4,Nat.zero_add]
 |c::a,b=>by rw[List.cons_append,za4,za4,zem a b,Nat.add_assoc]
theorem zhE:∀a b:List Box,zcg (a++b)=zcg a+zcg b
 |[],b=>by rw[List.nil_append,zcg,Nat.zero_add]
 |c::a,b=>by rw[List.cons_append,zcg,zcg,zhE a b,Nat.add_assoc]
theorem zen:∀a b:List zal,zdr (a++b)=zdr a+zdr b
 |[],b=>by rw[List.nil_append,zdr,Nat.zero_add]
 |c::a,b=>by rw[List.cons_append,zdr,zdr,zen a b,Nat.add_assoc]
theorem zhI:∀a b:List Box,zeS (a++b)=zeS a+zeS b
 |[],b=>by rw[List.nil_append,zeS,Nat.zero_add]
 |c::a,b=>by rw[List.cons_append,zeS,zeS,zhI a b,Nat.add_assoc]
theorem zdB:∀a b:List zal,zba (a++b)=zba a++zba b
 |[],b=>by rw[List.nil_append,zba,List.nil_append]
 |c::a,b=>by rw[List.cons_append,zba,zba,zdB a b,List.append_assoc]
theorem zff:∀a b:List Box,zbU (a++b)=zbU a++zbU b
 |[],b=>by rw[List.nil_append,zbU,List.nil_append]
 |c::a,b=>by rw[List.cons_append,zbU,zbU,zff a b,List.append_assoc]
theorem zel {r:List Str}{d:Int}:∀a b:List zal,zaU r (a++b) d↔zaU r a d∧zaU r b d
 |[],b=>by rw[List.nil_append,zaU,true_and]
 |c::a,b=>by rw[List.cons_append,zaU,zaU,zel a b,and_assoc]
theorem zhz {d m:Int}:∀a b:List Box,zbd (a++b) d m↔zbd a d m∧zbd b d m
 |[],b=>by rw[List.nil_append,zbd,true_and]
 |c::a,b=>by rw[List.cons_append,zbd,zbd,zhz a b,and_assoc]
theorem zc9 {d m:Int}{b:Box}:∀{bs:List Box},zbd bs d m→b∈bs→zfU b d m
 |c::bs,h,hm=>by
  rw[zbd]at h
  rcases List.mem_cons.1 hm with rfl|hm
  ·exact h.1
  ·exact zc9 h.2 hm
theorem zoH {c:zal}{r r':List Str}(hr:∀x∈r,x∈r')(h:zbb c r=0):zbb c r'=0:=by
 unfold zbb at h ⊢
 repeat'(split at h)
 all_goals first|(simp at h;done)|skip
 all_goals(try(rename_i h5;exact absurd h h5))
 ·rename_i h1 h2 h3 h4;rw[if_neg h1,if_neg h2,if_neg h3,if_pos h4]
 ·rename_i h1 h2 h3 h4 h5 h6 h7
  rw[if_neg h1,if_neg h2,if_neg h3,if_neg h4,if_neg h5,if_neg h6,if_neg fun e=>h7 ⟨e.1,fun hm=>e.2 (hr _ hm)⟩]
theorem zqA {k:Int}{n:Str}{f:zac}{bs bs':List Box}{r:List Str}(hl:bs.length=bs'.length)(h:zbb (.mk k n f bs) r=0):zbb (.mk k n f bs') r=0:=by
 unfold zbb at h ⊢
 simp only[zeD,zhi,zhj,zhh,hl]at h ⊢
 exact h
mutual
theorem zre:∀{b:Box} {d d' m m':Int},d'≤d→m≤m'→zfU b d m→zfU b d' m'
 | .mk r cs,d,d',m,m',hd,hm,h=>by
  rw[zfU]at h ⊢
  exact⟨by omega,by omega,h.2.2.1,zcs (cs:=cs) (fun _ h=>h) hd h.2.2.2⟩
theorem zrf:∀{c:zal} {r r':List Str} {d d':Int},(∀x∈r,x∈r')→d'≤d→zgQ r c d→zgQ r' c d'
 | .mk k nm f bs,r,r',d,d',hr,hd,h=>by
  rw[zgQ]at h ⊢
  exact⟨zoH hr h.1,ziI (bs:=bs) (by omega) (Int.le_refl _) h.2⟩
theorem ziI:∀{bs:List Box} {d d' m m':Int},d'≤d→m≤m'→zbd bs d m→zbd bs d' m'
 |[],_,_,_,_,_,_,_=>by rw[zbd];trivial
 |b::bs,d,d',m,m',hd,hm,h=>by
  rw[zbd]at h ⊢
  exact⟨zre hd hm h.1,ziI hd hm h.2⟩
theorem zcs:∀{cs:List zal} {r r':List Str} {d d':Int},(∀x∈r,x∈r')→d'≤d→zaU r cs d→zaU r' cs d'
 |[],_,_,_,_,_,_,_=>by rw[zaU];trivial
 |c::cs,r,r',d,d',hr,hd,h=>by
  rw[zaU]at h ⊢
  exact⟨zrf hr hd h.1,zcs hr hd h.2⟩
end
theorem zlC:∀(refs l:List Str),(∀x∈l,zai x=true)→(refs++l).Nodup→zaV refs l=(0,refs++l)
 |refs,[],_,_=>by rw[zaV,List.append_nil]
 |refs,x::l,h1,h2=>by
  have hx:x∉refs:=fun h=>(List.nodup_append.1 h2).2.2 x h x (by simp) rfl
  rw[zaV,if_neg (by rw[h1 x (by simp)];decide),if_neg hx,zlC (refs++[x]) l (fun y hy=>h1 y (by simp[hy])) (by rw[List.append_assoc];exact h2),List.append_assoc]
  rfl
theorem zmT {refs l:List Str}(h:(zaV refs l).1=0)(hn:refs.Nodup):(refs++l).Nodup:=by
 obtain⟨_,h2,h3⟩:=zdl refs l h
 refine List.nodup_append.2 ⟨hn,h3,fun a ha b hb e=>?_⟩
 subst e;exact h2 a hb ha
mutual
theorem znj:∀(b:Box) (d m:Int) (n:Nat) (refs:List Str),(zcm b d m n refs).e.code=0→
  zfU b d m∧zcm b d m n refs=⟨⟨0,0⟩,n+ziM b,refs++zdA b⟩∧n+ziM b≤200∧(refs++zdA b).length≤200∧(refs.Nodup→(refs++zdA b).Nodup)
 | .mk r cs,d,m,n,refs,h=>by
  rw[zcm]at h ⊢
  split at h
  ·simp at h
  rename_i h1
  rw[if_neg h1]
  split at h
  ·simp at h
  rename_i h2
  rw[if_neg h2]
  split at h
  ·rename_i h3;exact absurd h h3
  rename_i h3
  rw[if_neg h3]
  have h3:=Decidable.not_not.1 h3
  have e:=zhO h3
  rw[e]at h ⊢
  obtain⟨g1,g2,g3,g4,g5⟩:=ziv r cs d (n+1) (refs++r) (by omega) (by rw[List.length_append];omega) h
  rw[zfU,ziM,zdA]
  refine⟨⟨by omega,by omega,(zdl refs r h3).1,g1⟩,?_,by omega,by rw[←List.append_assoc];exact g4,fun hn=>by rw[←List.append_assoc];exact g5 (zmT h3 hn)⟩
  rw[g2,←List.append_assoc,Nat.add_assoc]
theorem ziv:∀(r:List Str) (cs:List zal) (d:Int) (n:Nat) (refs:List Str),n≤200→refs.length≤200→(zaI r cs d n refs).e.code=0→
  zaU r cs d∧zaI r cs d n refs=⟨⟨0,0⟩,n+za4 cs,refs++zba cs⟩∧n+za4 cs≤200∧(refs++zba cs).length≤200∧(refs.Nodup→(refs++zba cs).Nodup)
 |r,[],d,n,refs,h1,h2,_=>by rw[zaI,zaU,za4,zba,List.append_nil];exact⟨trivial,rfl,h1,h2,id⟩
 |r,c::cs,d,n,refs,h1,h2,h=>by
  rw[zaI]at h ⊢
  split at h
  ·rename_i h3;exact absurd h h3
  rename_i h3
  rw[if_neg h3]
  obtain⟨g1,g2,g3,g4,g5⟩:=zqB r c d n refs h1 h2 (Decidable.not_not.1 h3)
  rw[g2]at h ⊢
  obtain⟨k1,k2,k3,k4,k5⟩:=ziv r cs d _ _ g3 g4 h
  rw[zaU,za4,zba]
  refine⟨⟨g1,k1⟩,?_,by omega,by rw[←List.append_assoc];exact k4,fun hn=>by rw[←List.append_assoc];exact k5 (g5 hn)⟩
  rw[k2,←List.append_assoc,Nat.add_assoc]
theorem zqB:∀(r:List Str) (c:zal) (d:Int) (n:Nat) (refs:List Str),n≤200→refs.length≤200→(zb7 r c d n refs).e.code=0→
  zgQ r c d∧zb7 r c d n refs=⟨⟨0,0⟩,n+zke c,refs++zh7 c⟩∧n+zke c≤200∧(refs++zh7 c).length≤200∧(refs.Nodup→(refs++zh7 c).Nodup)
 |r,.mk k nm f bs,d,n,refs,h1,h2,h=>by
  rw[zb7]at h ⊢
  split at h
  ·simp at h
  rename_i h3
  rw[if_neg h3]
  split at h
  ·rename_i h4;exact absurd h h4
  rename_i h4
  rw[if_neg h4]
  obtain⟨g1,g2,g3,g4,g5⟩:=zkA bs (d+1) (if k=6 then 2 else 200) (n+1) refs (by omega) h2 h
  rw[zgQ,zke,zh7]
  exact⟨⟨Decidable.not_not.1 h4,g1⟩,by rw[g2,Nat.add_assoc],by omega,g4,g5⟩
theorem zkA:∀(bs:List Box) (d m:Int) (n:Nat) (refs:List Str),n≤200→refs.length≤200→(zbv bs d m n refs).e.code=0→
  zbd bs d m∧zbv bs d m n refs=⟨⟨0,0⟩,n+zcg bs,refs++zbU bs⟩∧n+zcg bs≤200∧(refs++zbU bs).length≤200∧(refs.Nodup→(refs++zbU bs).Nodup)
 |[],d,m,n,refs,h1,h2,_=>by rw[zbv,zbd,zcg,zbU,List.append_nil];exact⟨trivial,rfl,h1,h2,id⟩
 |b::bs,d,m,n,refs,h1,h2,h=>by
  rw[zbv]at h ⊢
  split at h
  ·rename_i h3;exact absurd h h3
  rename_i h3
  rw[if_neg h3]
  obtain⟨g1,g2,g3,g4,g5⟩:=znj b d m n refs (Decidable.not_not.1 h3)
  rw[g2]at h ⊢
  obtain⟨k1,k2,k3,k4,k5⟩:=zkA bs d m _ _ g3 g4 h
  rw[zbd,zcg,zbU]
  refine⟨⟨g1,k1⟩,?_,by omega,by rw[←List.append_assoc];exact k4,fun hn=>by rw[←List.append_assoc];exact k5 (g5 hn)⟩
  rw[k2,←List.append_assoc,Nat.add_assoc]
end
mutual
theorem zqe:∀(b:Box) (d m:Int) (n:Nat) (refs:List Str),zfU b d m→n+ziM b≤200→(refs++zdA b).length≤200→(refs++zdA b).Nodup→
  zcm b d m n refs=⟨⟨0,0⟩,n+ziM b,refs++zdA b⟩
 | .mk r cs,d,m,n,refs,h,h1,h2,h3=>by
  rw[zfU]at h
  rw[ziM]at h1 ⊢
  rw[zdA]at h2 h3 ⊢
  rw[←List.append_assoc]at h2 h3 ⊢
  have h4:=(List.nodup_append.1 h3).1
  have h5:(refs++r).length≤200:=by rw[List.length_append]at h2;omega
  rw[List.length_append]at h5
  rw[zcm,if_neg (by omega),if_neg (by omega),zlC refs r h.2.2.1 h4,if_neg (by simp),zkI r cs d (n+1) (refs++r) h.2.2.2 (by omega) h2 h3,Nat.add_assoc]
theorem zkI:∀(r:List Str) (cs:List zal) (d:Int) (n:Nat) (refs:List Str),zaU r cs d→n+za4 cs≤200→(refs++zba cs).length≤200→(refs++zba cs).Nodup→
  zaI r cs d n refs=⟨⟨0,0⟩,n+za4 cs,refs++zba cs⟩
 |r,[],d,n,refs,_,_,_,_=>by rw[zaI,za4,zba,List.append_nil];rfl
 |r,c::cs,d,n,refs,h,h1,h2,h3=>by
  rw[zaU]at h
  rw[za4]at h1 ⊢
  rw[zba]at h2 h3 ⊢
  rw[←List.append_assoc]at h2 h3 ⊢
  have e:=zta r c d n refs h.1 (by omega) (by rw[List.length_append]at h2;omega) (List.nodup_append.1 h3).1
  rw[zaI,e,if_neg (by simp),zkI r cs d _ _ h.2 (by simp only;omega) h2 h3,Nat.add_assoc]
theorem zta:∀(r:List Str) (c:zal) (d:Int) (n:Nat) (refs:List Str),zgQ r c d→n+zke c≤200→(refs++zh7 c).length≤200→(refs++zh7 c).Nodup→
  zb7 r c d n refs=⟨⟨0,0⟩,n+zke c,refs++zh7 c⟩
 |r,.mk k nm f bs,d,n,refs,h,h1,h2,h3=>by
  rw[zgQ]at h
  rw[zke]at h1 ⊢
  rw[zh7]at h2 h3 ⊢
  rw[zb7,if_neg (by omega),if_neg (by rw[h.1];decide),znl bs (d+1) _ (n+1) refs h.2 (by omega) h2 h3,Nat.add_assoc]
theorem znl:∀(bs:List Box) (d m:Int) (n:Nat) (refs:List Str),zbd bs d m→n+zcg bs≤200→(refs++zbU bs).length≤200→(refs++zbU bs).Nodup→
  zbv bs d m n refs=⟨⟨0,0⟩,n+zcg bs,refs++zbU bs⟩
 |[],d,m,n,refs,_,_,_,_=>by rw[zbv,zcg,zbU,List.append_nil];rfl
 |b::bs,d,m,n,refs,h,h1,h2,h3=>by
  rw[zbd]at h
  rw[zcg]at h1 ⊢
  rw[zbU]at h2 h3 ⊢
  rw[←List.append_assoc]at h2 h3 ⊢
  have e:=zqe b d m n refs h.1 (by omega) (by rw[List.length_append]at h2;omega) (List.nodup_append.1 h3).1
  rw[zbv,e,if_neg (by simp),znl bs d m _ _ h.2 (by simp only;omega) h2 h3,Nat.add_assoc]
end
structure VB (b:Box):Prop where
 loc:zfU b 1 200
 nod:ziM b≤200
 len:(zdA b).length≤200
 nd:(zdA b).Nodup
theorem VB.of {b:Box}(h:(zcy b).code=0):VB b:=by
 unfold zcy at h
 obtain⟨h1,_,h3,h4,h5⟩:=znj b 1 200 0 [] h
 rw[List.nil_append]at h4 h5
 exact⟨h1,by omega,h4,h5 .nil⟩
theorem VB.ok {b:Box}(h:VB b):zcy b=⟨0,0⟩:=by
 unfold zcy
 rw[zqe b 1 200 0 [] h.loc (by have:=h.nod;omega) h.len h.nd]
theorem zj8 {rs:List Str}:∀(n:Nat) (to:List Str) {t:List Str},t∈zfM rs n to→∃s,t=to++s∧s.length=n∧∀x∈s,x∈rs
 |0,to,t,h=>by
  rw[zfM,List.mem_singleton]at h
  exact⟨[],by rw[h,List.append_nil],rfl,by simp⟩
 |n+1,to,t,h=>by
  rw[zfM,List.mem_flatMap]at h
  obtain⟨y,hy,h⟩:=h
  obtain⟨s,e,hl,hs⟩:=zj8 n (to++[y]) h
  refine⟨y::s,by rw[e,List.append_assoc];rfl,by rw[List.length_cons,hl],fun x hx=>?_⟩
  rcases List.mem_cons.1 hx with rfl|hx
  ·exact hy
  ·exact hs x hx
theorem zr0 {a b:Str}(ha:zai a=true)(hb:zai b=true):zaL false (.mk 3 ⟨[]⟩ [a,b] [])=⟨0,0⟩:=by
 refine zkD ?_ ?_ ?_
 ·rw[shp,zdu]
  refine⟨⟨?_,?_,?_,?_⟩,trivial⟩
  ·rfl
  ·rfl
  ·intro h;exact Bool.noConfusion (show false=true from h)
  ·intro _;rfl
 ·rw[zbD,zaz]
  refine⟨fun w hw=>?_,fun h=>absurd h (by decide),trivial⟩
  simp only[List.mem_cons,List.not_mem_nil,or_false]at hw
  rcases hw with rfl|rfl<;>assumption
 ·unfold zig
  rw[zac.size,zac.sizes,zac.depth,zac.depths];decide
theorem zwF {a b:Str}{r:List Str}(ha:zai a=true)(hb:zai b=true):zbb (zbc a b) r=0:=by
 unfold zbb zbc
 simp only[zhi,zhj,zhh,zeD]
 rw[zr0 ha hb]
 simp[zax,zac.kind]
theorem znY {a b:Str}{r:List Str}{d:Int}(ha:zai a=true)(hb:zai b=true):zgQ r (zbc a b) d:=by
 rw[zbI];exact⟨zwF ha hb,by unfold zbc;rw[zeD,zbd];trivial⟩
structure zxY (r:List Str)(c:zal)(d:Int)(w:Chg):Prop where
 loc:zaU (r++w.refs) w.conds d
 nm:∀x∈w.refs,zai x=true
 tnm:∀x∈w.top.refs,zai x=true
 tloc:zaU w.top.refs w.top.conds 1
 nod:za4 w.conds+za4 w.top.conds≤zke c
 cnt:∀a,w.refs.count a+(zba w.conds).count a+(zdA w.top).count a=(zh7 c).count a
 opn:zdr w.conds+ze9 w.top<zwu c
structure zxX (b:Box)(d:Int)(x:Box×Box):Prop where
 loc:zfU x.1 d 200
 tnm:∀y∈x.2.refs,zai y=true
 tloc:zaU x.2.refs x.2.conds 1
 nod:ziM x.1+za4 x.2.conds≤ziM b
 cnt:∀a,(zdA x.1).count a+(zdA x.2).count a=(zdA b).count a
 opn:ze9 x.1+ze9 x.2<ze9 b
structure zBi (bs:List Box)(d:Int)(x:List Box×Box):Prop where
 len:x.1.length=bs.length
 loc:zbd x.1 d 200
 tnm:∀y∈x.2.refs,zai y=true
 tloc:zaU x.2.refs x.2.conds 1
 nod:zcg x.1+za4 x.2.conds≤zcg bs
 cnt:∀a,(zbU x.1).count a+(zdA x.2).count a=(zbU bs).count a
 opn:zeS x.1+ze9 x.2<zeS bs
theorem zom {r:List Str}{d:Int}:∀{p to:List Str},(∀x∈p,zai x=true)→(∀x∈to,zai x=true)→
  zaU r (List.zipWith zbc p to) d∧za4 (List.zipWith zbc p to)≤p.length∧zba (List.zipWith zbc p to)=[]∧zdr (List.zipWith zbc p to)=0
 |[],to,_,_=>by rw[List.zipWith_nil_left,zaU,za4,zba,zdr];exact⟨trivial,Nat.zero_le _,rfl,rfl⟩
 |x::p,[],_,_=>by rw[List.zipWith_nil_right,zaU,za4,zba,zdr];exact⟨trivial,Nat.zero_le _,rfl,rfl⟩
 |x::p,y::to,h1,h2=>by
  obtain⟨g1,g2,g3,g4⟩:=zom (r:=r) (d:=d) (p:=p) (to:=to) (fun z hz=>h1 z (by simp[hz])) fun z hz=>h2 z (by simp[hz])
  rw[List.zipWith_cons_cons,zaU,za4,zba,zdr,g3,g4]
  refine⟨⟨znY (h1 x (by simp)) (h2 y (by simp)),g1⟩,?_,rfl,rfl⟩
  rw[List.length_cons,show zke (zbc x y)=1 from rfl];omega
theorem zlA {r:List Str}{d:Int}:∀{cs:List zal},zaU r cs d→(cs.all fun x=>decide (x.kind=1))=true→zba cs=[]
 |[],_,_=>by rw[zba]
 |c::cs,h,hp=>by
  rw[zaU]at h
  rw[List.all_cons,Bool.and_eq_true,decide_eq_true_eq]at hp
  have:=(zbj (zbI.1 h.1).1).2.2.1
  rw[hp.1,show zax 1=0 from rfl]at this
  rw[zba,zlA h.2 hp.2,zmi,zAS this];rfl
theorem zce:noB.conds=[]:=rfl
theorem zcf:noB.refs=[]:=rfl
theorem zwv:ze9 noB=0:=rfl
theorem zwY {v:Box}{r:List Str}{c:zal}{d:Int}(hv:∀y∈v.refs,zai y=true)(hr:∀y∈r,zai y=true)(hd:1≤d)(hc:zgQ r c d)(hk:c.kind=5∨c.kind=6){w:Chg}(hw:w∈zcj v c):zxY r c d w:=by
 have hcc:=zbI.1 hc
 have hsh:=zbj hcc.1
 unfold zcj at hw
 rcases hk with hk|hk
 ·rw[if_pos hk]at hw
  obtain⟨y,hy,rfl⟩:=List.mem_map.1 hw
  have hyv:=(List.mem_filter.1 hy).1
  have hb:c.boxes=[]:=zAS (by rw[hsh.2.2.1,hk];rfl)
  have hn:zai c.name=true:=by
   have h:=hcc.1
   unfold zbb at h
   repeat'(split at h)
   all_goals first|(simp at h;done)|skip
   ·rename_i h1 h2 h3 h4
    rw[hk]at h4;exact absurd h4 (by decide)
   ·rename_i h1 h2 h3 h4 h5;exact absurd h h5
   ·rename_i h7
    exact hr _ (Decidable.not_not.1 fun e=>h7 ⟨hk,e⟩)
  refine⟨?_,by simp[zjM],by simp[zjM,zcf],by simp[zjM,zce,zaU],?_,fun a=>?_,?_⟩
  ·show zaU (r++[]) [zbc c.name y] d
   rw[zaU,zaU];exact⟨znY hn (hv y hyv),trivial⟩
  ·show za4 [zbc c.name y]+za4 []≤_
   rw[zrv,hb];exact Nat.le_refl _
  ·rw[zmi,hb];rfl
  ·show 0<_
   rw[zrB,if_pos (by omega)];omega
 ·rw[if_neg (by omega),if_pos hk]at hw
  obtain⟨p,hb⟩:∃p,c.boxes=[p]:=zED (by rw[hsh.2.2.1,hk];rfl)
  have hp:=hcc.2
  rw[hb,if_pos hk,zbd,zbd,and_true,zcr]at hp
  rw[hb]at hw
  rw[show[p].getD 0 noB=p from rfl]at hw
  have e1:zke c=2+za4 p.conds:=by rw[zrv,hb,zcg,zcg,zru];omega
  have e2:zh7 c=zdA p:=by rw[zmi,hb,zbU,zbU,List.append_nil]
  have e3:zwu c=1+ze9 p:=by rw[zrB,hb,if_pos (by omega),zeS,zeS];rfl
  unfold zhJ at hw
  split at hw
  ·rw[List.mem_singleton]at hw
   subst hw
   refine⟨?_,by simp[zu9],hp.2.2.1,zcs (fun _ h=>h) (by omega) hp.2.2.2,?_,fun a=>?_,?_⟩
   ·show zaU _ [] d
    rw[zaU];trivial
   ·show za4 []+za4 p.conds≤_
    rw[e1,za4];omega
   ·show([]:List Str).count a+(zba []).count a+(zdA p).count a=_
    rw[e2,zba];simp
   ·show zdr []+ze9 p<_
    rw[e3,zdr];omega
  ·unfold zdC at hw
   split at hw
   ·rename_i hpl
    obtain⟨t,ht,rfl⟩:=List.mem_map.1 hw
    obtain⟨s,hs,hl,hm⟩:=zj8 _ _ (List.mem_filter.1 ht).1
    rw[List.nil_append]at hs
    subst hs
    obtain⟨g1,g2,g3,g4⟩:=zom (r:=r++p.refs) (d:=d) (p:=p.refs) (to:=t) hp.2.2.1 fun x hx=>hv x (hm x hx)
    refine⟨g1,hp.2.2.1,by simp[zib,zcf],by simp[zib,zce,zaU],?_,fun a=>?_,?_⟩
    ·show za4 (List.zipWith zbc p.refs t)+za4 []≤_
     rw[e1,za4];omega
    ·show p.refs.count a+(zba (List.zipWith zbc p.refs t)).count a+(zdA noB).count a=_
     rw[g3,e2,zjd,zjd,zlA hp.2.2.2 hpl];simp[zcf,zce,zba]
    ·show zdr (List.zipWith zbc p.refs t)+ze9 noB<_
     rw[g4,e3,zwv];omega
   ·simp at hw
theorem zgq {v:Box}{c:zal}{k:Int}{d m:Int}(hv:∀y∈v.refs,zai y=true)(hc:zbd c.boxes d m):∀y∈(zbH v c k).refs,zai y=true:=fun y hy=>by
 unfold zbH at hy
 split at hy
 ·rw[zaX,List.mem_append]at hy
  rcases hy with hy|hy
  ·exact hv y hy
  ·cases hb:c.boxes with
   |nil=>rw[hb]at hy;exact absurd (show y∈([]:List Str)from hy) (by simp)
   |cons b bs=>
    rw[hb]at hy hc
    rw[zbd,zcr]at hc
    exact hc.1.2.2.1 y hy
 ·exact hv y hy
mutual
theorem zr1:∀(b v:Box) (d:Int) (l:List (Box×Box)),1≤d→(∀y∈v.refs,zai y=true)→zfU b d 200→(zdA b).length≤200→zfa b v=some l→∀x∈l,zxX b d x
 | .mk r cs,v,d,l,hd,hv,hb,hl,h=>by
  rw[zfa]at h
  rw[zfU]at hb
  rw[zdA]at hl
  exact zn1 r [] cs (zaK v (.mk r cs)) d l hd hb.1 (fun y hy=>(List.mem_append.1 hy).elim (hv y) (hb.2.2.1 y)) hb.2.2.1 (by rw[zaU];trivial) hb.2.2.2 hl h
termination_by structural b=>b
theorem zn1:∀(r:List Str) (pre cs:List zal) (v:Box) (d:Int) (l:List (Box×Box)),1≤d→d≤10→(∀y∈v.refs,zai y=true)→(∀y∈r,zai y=true)→zaU r pre d→zaU r cs d→(r++zba (pre++cs)).length≤200→
  zdZ r pre cs v=some l→∀x∈l,zxX (.mk r (pre++cs)) d x
 |r,pre,[],v,d,l,_,_,_,_,_,_,_,h=>by rw[zdZ]at h;cases h
 |r,pre,c::cs,v,d,l,hd,hd2,hv,hr,hp,hc,hl,h=>by
  rw[zaU]at hc
  rw[zdZ]at h
  have hlen:r.length+((zba pre).length+((zh7 c).length+(zba cs).length))≤200:=by
   rw[zdB,zba]at hl;simpa using hl
  cases hs:zgH c v with
  |none=>
   rw[hs]at h
   have:=zn1 r (pre++[c]) cs v d l hd hd2 hv hr (by rw[zel,zaU,zaU];exact⟨hp,hc.1,trivial⟩) hc.2 (by rw[List.append_assoc];exact hl) h
   rw[List.append_assoc]at this
   exact this
  |some l'=>
   rw[hs]at h
   have h:=Option.some.inj h
   subst h
   intro x hx
   obtain⟨w,hw,rfl⟩:=List.mem_map.1 hx
   have st:=zwI r c v d l' hd hd2 hv hr hc.1 (by omega) hs w hw
   have hln:w.refs.length+(zba w.conds).length+(zdA w.top).length=(zh7 c).length:=by
    have hpm:(w.refs++zba w.conds++zdA w.top).Perm (zh7 c):=List.perm_iff_count.2 fun a=>by rw[List.count_append,List.count_append];exact st.cnt a
    have:=hpm.length_eq
    rw[List.length_append,List.length_append]at this;exact this
   have hsub:∀y∈r,y∈r++w.refs:=fun y hy=>List.mem_append_left _ hy
   refine⟨?_,st.tnm,st.tloc,?_,fun a=>?_,?_⟩
   ·rw[zfU]
    refine⟨hd2,by rw[List.length_append];omega,fun y hy=>(List.mem_append.1 hy).elim (hr y) (st.nm y),?_⟩
    rw[zel,zel]
    exact⟨⟨zcs hsub (Int.le_refl _) hp,st.loc⟩,zcs hsub (Int.le_refl _) hc.2⟩
   ·have:=st.nod
    show ziM (.mk (r++w.refs) (pre++w.conds++cs))+za4 w.top.conds≤_
    rw[ziM,ziM,zem,zem,zem,za4];omega
   ·have:=st.cnt a
    show(zdA (.mk (r++w.refs) (pre++w.conds++cs))).count a+(zdA w.top).count a=_
    rw[zdA,zdA,zdB,zdB,zdB,zba]
    simp only[List.count_append]at this ⊢
    omega
   ·have:=st.opn
    show ze9 (.mk (r++w.refs) (pre++w.conds++cs))+ze9 w.top<_
    rw[ze9,ze9,zen,zen,zen,zdr];omega
termination_by structural _ _ cs=>cs
theorem zwI:∀(r:List Str) (c:zal) (v:Box) (d:Int) (l:List Chg),1≤d→d≤10→(∀y∈v.refs,zai y=true)→(∀y∈r,zai y=true)→zgQ r c d→(zh7 c).length≤200→zgH c v=some l→∀w∈l,zxY r c d w
 |r,.mk k n f bs,v,d,l,hd,hd2,hv,hr,hc,hl,h=>by
  rw[zgH]at h
  by_cases hk:k=5∨k=6
  ·rw[if_pos hk]at h
   have h:=Option.some.inj h
   subst h
   exact fun w hw=>zwY hv hr hd hc hk hw
  ·rw[if_neg hk]at h
   obtain⟨l',hl',rfl⟩:=Option.map_eq_some_iff.1 h
   intro w hw
   obtain⟨x,hx,rfl⟩:=List.mem_map.1 hw
   rw[zgQ,if_neg (by omega)]at hc
   rw[zh7]at hl
   have st:=zn0 (.mk k n f bs) [] bs v (d+1) l' (by omega) (fun j=>zgq hv hc.2) (by rw[zbd];trivial) hc.2 hl hl' x hx
   rw[List.nil_append]at st
   refine⟨?_,by simp,st.tnm,st.tloc,?_,fun a=>?_,?_⟩
   ·show zaU (r++[]) [_] d
    rw[List.append_nil,zaU,zaU,zgQ,if_neg (by omega)]
    exact⟨⟨zqA st.len.symm hc.1,st.loc⟩,trivial⟩
   ·have:=st.nod
    show za4 [_]+za4 x.2.conds≤_
    rw[za4,za4,zke,zke];omega
   ·have:=st.cnt a
    show([]:List Str).count a+(zba [_]).count a+(zdA x.2).count a=_
    rw[zba,zba,zh7,zh7,List.append_nil,List.count_nil];omega
   ·have:=st.opn
    show zdr [_]+ze9 x.2<_
    rw[zdr,zdr,zwu,zwu];omega
termination_by structural _ c=>c
theorem zn0:∀(c:zal) (pre bs:List Box) (v:Box) (d:Int) (l:List (List Box×Box)),1≤d→(∀k,∀y∈(zbH v c k).refs,zai y=true)→zbd pre d 200→zbd bs d 200→(zbU (pre++bs)).length≤200→
  zdY c pre bs v=some l→∀x∈l,zBi (pre++bs) d x
 |c,pre,[],v,d,l,_,_,_,_,_,h=>by rw[zdY]at h;cases h
 |c,pre,b::bs,v,d,l,hd,hv,hp,hb,hl,h=>by
  rw[zbd]at hb
  rw[zdY]at h
  have hlen:(zbU pre).length+((zdA b).length+(zbU bs).length)≤200:=by
   rw[zff,zbU]at hl;simpa using hl
  cases hs:zfa b (zbH v c pre.length)with
  |none=>
   rw[hs]at h
   have:=zn0 c (pre++[b]) bs v d l hd hv (by rw[zhz,zbd,zbd];exact⟨hp,hb.1,trivial⟩) hb.2 (by rw[List.append_assoc];exact hl) h
   rw[List.append_assoc]at this
   exact this
  |some l'=>
   rw[hs]at h
   have h:=Option.some.inj h
   subst h
   intro x hx
   obtain⟨y,hy,rfl⟩:=List.mem_map.1 hx
   have st:=zr1 b _ d l' hd (hv _) hb.1 (by omega) hs y hy
   refine⟨by simp,?_,st.tnm,st.tloc,?_,fun a=>?_,?_⟩
   ·show zbd (pre++y.1::bs) d 200
    rw[zhz,zbd]
    exact⟨hp,st.loc,hb.2⟩
   ·have:=st.nod
    show zcg (pre++y.1::bs)+za4 y.2.conds≤_
    rw[zhE,zhE,zcg,zcg];omega
   ·have:=st.cnt a
    show(zbU (pre++y.1::bs)).count a+(zdA y.2).count a=_
    rw[zff,zff,zbU,zbU]
    simp only[List.count_append]at this ⊢
    omega
   ·have:=st.opn
    show zeS (pre++y.1::bs)+ze9 y.2<_
    rw[zhI,zhI,zeS,zeS];omega
termination_by structural _ _ bs=>bs
end
theorem zjz {b:Box}{l:List Box}(hb:(zcy b).code=0)(h:zej b=some l):∀x∈l,(zcy x).code=0∧ze9 x<ze9 b:=by
 intro x hx
 unfold zej at h
 obtain⟨l',hl',rfl⟩:=Option.map_eq_some_iff.1 h
 obtain⟨y,hy,rfl⟩:=List.mem_map.1 hx
 have vb:=VB.of hb
 have st:=zr1 b noB 1 l' (Int.le_refl _) (by simp[zcf]) vb.loc vb.len hl' y hy
 have hcnt:∀a,(zdA (zde y)).count a=(zdA b).count a:=fun a=>by
  have:=st.cnt a
  unfold zde zaK
  rw[zdA,zdB]
  rw[zjd,zjd y.2]at this
  simp only[List.count_append]at this ⊢
  omega
 have hpm:(zdA (zde y)).Perm (zdA b):=List.perm_iff_count.2 hcnt
 have hlen:(zdA (zde y)).length≤200:=by rw[hpm.length_eq];exact vb.len
 have h1:=zcr.1 st.loc
 refine⟨?_,?_⟩
 ·rw[VB.ok (b:=zde y) ⟨?_,?_,hlen,hpm.nodup_iff.2 vb.nd⟩]
  ·unfold zde zaK
   rw[zfU]
   refine⟨by decide,?_,fun z hz=>(List.mem_append.1 hz).elim (h1.2.2.1 z) (st.tnm z),?_⟩
   ·have:=hlen
    unfold zde zaK at this
    rw[zdA,List.length_append]at this;omega
   ·rw[zel]
    exact⟨zcs (fun z hz=>List.mem_append_left _ hz) (Int.le_refl _) h1.2.2.2,zcs (fun z hz=>List.mem_append_right _ hz) (Int.le_refl _) st.tloc⟩
  ·have h2:=st.nod
   have h3:=vb.nod
   unfold zde zaK
   rw[ziM,zem]
   rw[zru y.1]at h2
   omega
 ·have:=st.opn
  unfold zde zaK
  rw[ze9,zen]
  rw[zrA y.1,zrA y.2]at this
  exact this
mutual
theorem zlK:∀(b v:Box),okB b→(zfa b v=none↔zeu b=false)
 | .mk r cs,v,h=>by
  rw[okB]at h
  rw[zfa,zeu,ziR r [] cs _ h]
theorem ziR:∀(r:List Str) (pre cs:List zal) (v:Box),ztX cs→(zdZ r pre cs v=none↔zfN cs=false)
 |r,pre,[],v,_=>by rw[zdZ,zfN];simp
 |r,pre,c::cs,v,h=>by
  rw[ztX]at h
  have i1:=zr2 c v h.1
  have i2:=ziR r (pre++[c]) cs v h.2
  rw[zdZ,zfN,Bool.or_eq_false_iff,←i1,←i2]
  cases zgH c v<;>simp
theorem zr2:∀(c:zal) (v:Box),zwr c→(zgH c v=none↔zih c=false)
 | .mk k n f bs,v,h=>by
  rw[zwr]at h
  have i1:=ziQ (.mk k n f bs) [] bs v h.2
  have hk:=h.1.2.1
  have hk:k≤6:=hk
  rw[zgH,zih,Bool.or_eq_false_iff,decide_eq_false_iff_not]
  by_cases h5:k=5∨k=6
  ·rw[if_pos h5]
   exact⟨fun e=>(by cases e),fun e=>absurd (show 4<k by omega) e.1⟩
  ·rw[if_neg h5,Option.map_eq_none_iff,i1]
   exact⟨fun e=>⟨show¬4<k by omega,e⟩,fun e=>e.2⟩
theorem ziQ:∀(c:zal) (pre bs:List Box) (v:Box),ztV bs→(zdY c pre bs v=none↔zeT bs=false)
 |c,pre,[],v,_=>by rw[zdY,zeT];simp
 |c,pre,b::bs,v,h=>by
  rw[ztV]at h
  have i1:=zlK b (zbH v c pre.length) h.1
  have i2:=ziQ c (pre++[b]) bs v h.2
  rw[zdY,zeT,Bool.or_eq_false_iff,←i1,←i2]
  cases zfa b (zbH v c pre.length)<;>simp
end
theorem zhu {b:Box}(hb:okB b):zej b=none↔zeu b=false:=by
 unfold zej
 rw[Option.map_eq_none_iff,zlK b noB hb]
end Go.Abs
namespace Go.Abs
open Go
def zsL:zal:= .mk 0 ⟨[]⟩ (.mk 0 ⟨[]⟩ [] []) []
mutual
def opB:Box→Option (List Int×Nat)
 | .mk _ cs=>zpp 0 cs
def opC:Nat→zal→Option (List Int×Nat)
 |i,.mk k _ _ bs=>if 4<k then some ([],i)else zpQ i 0 bs
def zpQ:Nat→Nat→List Box→Option (List Int×Nat)
 |_,_,[]=>none
 |i,k,b::bs=>match opB b with
  |some x=>some ((i:Int)::(k:Int)::x.1,x.2)
  |none=>zpQ i (k+1) bs
def zpp:Nat→List zal→Option (List Int×Nat)
 |_,[]=>none
 |i,c::cs=>match opC i c with
  |some x=>some x
  |none=>zpp (i+1) cs
end
theorem zzx (b:Box):opB b=zpp 0 b.conds:=by cases b;rw[opB];rfl
theorem zzy (i:Nat)(c:zal):opC i c=if 4<c.kind then some ([],i)else zpQ i 0 c.boxes:=by cases c;rw[opC];rfl
def zmZ (c:zal)(k:Nat)(x:Box):zal:= .mk c.kind c.name c.form (c.boxes.set k x)
def zgC:Box→List Int→Nat→List zal→List Str→Box
 |b,i::k::p,at',by',rs=> .mk b.refs (b.conds.set i.toNat (zmZ (b.conds.getD i.toNat zsL) k.toNat (zgC ((b.conds.getD i.toNat zsL).boxes.getD k.toNat noB) p at' by' rs)))
 |b,[_],at',by',rs=> .mk (b.refs++rs) (b.conds.take at'++by'++b.conds.drop (at'+1))
 |b,[],at',by',rs=> .mk (b.refs++rs) (b.conds.take at'++by'++b.conds.drop (at'+1))
def inV:Box→List Int→Box→Box
 |b,i::k::p,v=>inV ((b.conds.getD i.toNat zsL).boxes.getD k.toNat noB) p (zaK (zbH v (b.conds.getD i.toNat zsL) k) ((b.conds.getD i.toNat zsL).boxes.getD k.toNat noB))
 |_,[_],v=>v
 |_,[],v=>v
def zgD:Box→List Int→Box
 |b,i::k::p=>zgD ((b.conds.getD i.toNat zsL).boxes.getD k.toNat noB) p
 |b,[_]=>b
 |b,[]=>b
inductive Pth:Box→List Int→Nat→Prop
 |nil {b:Box} {at':Nat} (h:at'<b.conds.length) (hk:4<(b.conds[at']).kind):Pth b [] at'
 |step {b:Box} {i k:Nat} {p:List Int} {at':Nat} (hi:i<b.conds.length) (h4:¬4<(b.conds[i]).kind) (hk:k<(b.conds[i]).boxes.length) (h:Pth (b.conds[i]).boxes[k] p at'):Pth b ((i:Int)::(k:Int)::p) at'
def zc3 (b:Box)(p:List Int)(at':Nat):zal:=(zgD b p).conds.getD at' zsL
def zqo (b:Box)(p:List Int)(at':Nat)(w:Chg):Box×Box:=(zgC b p at' w.conds w.refs,w.top)
theorem zeG {α:Type}{l:List α}{i:Nat}{d:α}(h:i<l.length):l.getD ((i:Int).toNat) d=l[i]:=by simp[h]
theorem zjx {b:Box}{i k:Nat}{p:List Int}{v:Box}(hi:i<b.conds.length)(hk:k<(b.conds[i]).boxes.length):
  inV b ((i:Int)::(k:Int)::p) v=inV (b.conds[i]).boxes[k] p (zaK (zbH v b.conds[i] k) (b.conds[i]).boxes[k]):=by
 rw[inV,zeG hi,zeG hk]
theorem zdE {b:Box}{i k:Nat}{p:List Int}(hi:i<b.conds.length)(hk:k<(b.conds[i]).boxes.length):
  zgD b ((i:Int)::(k:Int)::p)=zgD (b.conds[i]).boxes[k] p:=by
 rw[zgD,zeG hi,zeG hk]
theorem zhg {b:Box}{i k:Nat}{p:List Int}{at':Nat}{cs:List zal}{rs:List Str}(hi:i<b.conds.length)(hk:k<(b.conds[i]).boxes.length):
  zgC b ((i:Int)::(k:Int)::p) at' cs rs= .mk b.refs (b.conds.set i (zmZ b.conds[i] k (zgC (b.conds[i]).boxes[k] p at' cs rs))):=by
 rw[zgC,zeG hi,zeG hk];rfl
def PB (b:Box):Prop:=(opB b=none∧∀v,zfa b v=none)∨∃p at',opB b=some (p,at')∧Pth b p at'∧∀v,zfa b v=some ((zcj (inV b p (zaK v b)) (zc3 b p at')).map (zqo b p at'))
def PCs (r:List Str)(pre cs:List zal):Prop:=(zpp pre.length cs=none∧∀v,zdZ r pre cs v=none)∨
 ∃p at',zpp pre.length cs=some (p,at')∧Pth (.mk r (pre++cs)) p at'∧∀v,zdZ r pre cs v=some ((zcj (inV (.mk r (pre++cs)) p v) (zc3 (.mk r (pre++cs)) p at')).map (zqo (.mk r (pre++cs)) p at'))
def PC (i:Nat)(c:zal):Prop:=(¬4<c.kind∧opC i c=none∧∀v,zgH c v=none)∨(4<c.kind∧opC i c=some ([],i)∧∀v,zgH c v=some (zcj v c))∨
 (¬4<c.kind∧∃(k:Nat) (p:List Int) (at':Nat) (hk:k<c.boxes.length),opC i c=some ((i:Int)::(k:Int)::p,at')∧Pth c.boxes[k] p at'∧
  ∀v,zgH c v=some ((zcj (inV c.boxes[k] p (zaK (zbH v c k) c.boxes[k])) (zc3 c.boxes[k] p at')).map fun w=>⟨[zmZ c k (zqo c.boxes[k] p at' w).1],[],w.top⟩))
def PBs (i:Nat)(c:zal)(pre bs:List Box):Prop:=(zpQ i pre.length bs=none∧∀v,zdY c pre bs v=none)∨
 ∃(k:Nat) (p:List Int) (at':Nat) (hk:k<(pre++bs).length),zpQ i pre.length bs=some ((i:Int)::(k:Int)::p,at')∧Pth (pre++bs)[k] p at'∧
  ∀v,zdY c pre bs v=some ((zcj (inV (pre++bs)[k] p (zaK (zbH v c k) (pre++bs)[k])) (zc3 (pre++bs)[k] p at')).map fun w=>((pre++bs).set k (zqo (pre++bs)[k] p at' w).1,w.top))
theorem zrm {α:Type}(a:List α)(x:α)(b:List α)(h:a.length<(a++x::b).length):(a++x::b)[a.length]=x:=by simp
theorem ztS {α:Type}(a:List α)(x:α)(b:List α):(a++x::b).take a.length=a:=by simp
theorem ztR {α:Type}(a:List α)(x:α)(b:List α):(a++x::b).drop (a.length+1)=b:=by simp
theorem zrn {α:Type}(a:List α)(x y:α)(b:List α):(a++x::b).set a.length y=a++y::b:=by simp
mutual
theorem zr3:∀b:Box,okB b→PB b
 | .mk r cs,h=>by
  rw[okB]at h
  have:=zn3 r [] cs h
  rw[PCs,List.nil_append,List.length_nil]at this
  rw[PB,opB]
  rcases this with⟨h1,h2⟩|⟨p,at',h1,h2,h3⟩
  ·exact .inl ⟨h1,fun v=>by rw[zfa,h2]⟩
  ·exact .inr ⟨p,at',h1,h2,fun v=>by rw[zfa,h3]⟩
theorem zn3:∀(r:List Str) (pre cs:List zal),ztX cs→PCs r pre cs
 |r,pre,[],_=>by rw[PCs,zpp];exact .inl ⟨rfl,fun v=>by rw[zdZ]⟩
 |r,pre,c::cs,h=>by
  rw[ztX]at h
  have i1:=zwJ pre.length c h.1
  have i2:=zn3 r (pre++[c]) cs h.2
  rw[PCs,List.append_assoc,show[c]++cs=c::cs from rfl,show(pre++[c]).length=pre.length+1 by simp]at i2
  rw[PCs,zpp]
  have hl:pre.length<(Box.mk r (pre++c::cs)).conds.length:=by rw[zca];simp
  have hg:(Box.mk r (pre++c::cs)).conds[pre.length]=c:=zrm pre c cs _
  rcases i1 with⟨_,h1,h2⟩|⟨h0,h1,h2⟩|⟨h0,k,p,at',hk,h1,h2,h3⟩
  ·rw[h1]
   rcases i2 with⟨j1,j2⟩|⟨p,at',j1,j2,j3⟩
   ·exact .inl ⟨j1,fun v=>by rw[zdZ,h2];exact j2 v⟩
   ·exact .inr ⟨p,at',j1,j2,fun v=>by rw[zdZ,h2];exact j3 v⟩
  ·rw[h1]
   refine .inr ⟨[],pre.length,rfl,.nil hl (by rw[hg];exact h0),fun v=>?_⟩
   have e:zc3 (.mk r (pre++c::cs)) [] pre.length=c:=by
    unfold zc3
    rw[zgD,List.getD_eq_getElem?_getD,List.getElem?_eq_getElem hl,hg];rfl
   rw[zdZ,h2,e,inV]
   show some _=some _
   congr 1
   refine List.map_congr_left fun w _=>?_
   unfold zqo
   rw[zgC,zdg,zca,ztS,ztR]
  ·rw[h1]
   have hk':k<((Box.mk r (pre++c::cs)).conds[pre.length]).boxes.length:=by rw[hg];exact hk
   have hgk:((Box.mk r (pre++c::cs)).conds[pre.length]).boxes[k]=c.boxes[k]:=by simp only[hg]
   refine .inr ⟨_,at',rfl,.step hl (by rw[hg];exact h0) hk' (by rw[hgk];exact h2),fun v=>?_⟩
   have e:zc3 (.mk r (pre++c::cs)) ((pre.length:Int)::(k:Int)::p) at'=zc3 c.boxes[k] p at':=by
    unfold zc3;rw[zdE hl hk',hgk]
   rw[zdZ,h3,e,zjx hl hk',hgk,hg]
   show some _=some _
   congr 1
   rw[List.map_map]
   refine List.map_congr_left fun w _=>?_
   unfold zqo
   rw[zhg hl hk',hgk,hg,zdg,zca,zrn]
   simp
theorem zwJ:∀(i:Nat) (c:zal),zwr c→PC i c
 |i,.mk k n f bs,h=>by
  rw[zwr]at h
  have hk:=h.1.2.1
  have i1:=zn2 i (.mk k n f bs) [] bs h.2
  rw[PBs,List.nil_append,List.length_nil]at i1
  rw[PC,opC]
  show(¬4<k∧_)∨(4<k∧_)∨(¬4<k∧_)
  by_cases h5:4<k
  ·rw[if_pos h5]
   exact .inr (.inl ⟨h5,rfl,fun v=>by rw[zgH,if_pos (by omega)]⟩)
  ·rw[if_neg h5]
   rcases i1 with⟨h1,h2⟩|⟨j,p,at',hj,h1,h2,h3⟩
   ·exact .inl ⟨h5,h1,fun v=>by rw[zgH,if_neg (by omega),h2];rfl⟩
   ·refine .inr (.inr ⟨h5,j,p,at',hj,h1,h2,fun v=>?_⟩)
    rw[zgH,if_neg (by omega),h3]
    show some _=some _
    congr 1
    exact List.map_map
theorem zn2:∀(i:Nat) (c:zal) (pre bs:List Box),ztV bs→PBs i c pre bs
 |i,c,pre,[],_=>by rw[PBs,zpQ];exact .inl ⟨rfl,fun v=>by rw[zdY]⟩
 |i,c,pre,b::bs,h=>by
  rw[ztV]at h
  have i1:=zr3 b h.1
  have i2:=zn2 i c (pre++[b]) bs h.2
  rw[PBs]at i2
  simp only[List.append_assoc,show[b]++bs=b::bs from rfl,show(pre++[b]).length=pre.length+1 by simp]at i2
  rw[PBs,zpQ]
  have hl:pre.length<(pre++b::bs).length:=by simp
  have hg:(pre++b::bs)[pre.length]=b:=zrm pre b bs _
  rcases i1 with⟨h1,h2⟩|⟨p,at',h1,h2,h3⟩
  ·rw[h1]
   rcases i2 with⟨j1,j2⟩|⟨k,p,at',hk,j1,j2,j3⟩
   ·exact .inl ⟨j1,fun v=>by rw[zdY,h2];exact j2 v⟩
   ·exact .inr ⟨k,p,at',hk,j1,j2,fun v=>by rw[zdY,h2];exact j3 v⟩
  ·rw[h1]
   refine .inr ⟨pre.length,p,at',hl,rfl,by rw[hg];exact h2,fun v=>?_⟩
   rw[zdY,h3,hg]
   show some _=some _
   congr 1
   rw[List.map_map]
   refine List.map_congr_left fun w _=>?_
   simp only[Function.comp,zqo,zrn]
end
def zcU (l:List Box):Box:= .mk (zbX l) (l.flatMap Box.conds)
theorem zdL (v x:Box)(l:List Box):zaK v (zcU (x::l))=zaK (zaK v x) (zcU l):=by
 unfold zaK zcU zbX
 simp only[zdg,zca,List.flatMap_cons,List.append_assoc]
theorem zsB (v:Box):zaK v (zcU [])=v:=by
 unfold zaK zcU zbX
 cases v;simp[zdg,zca]
theorem zfD {b:Box}{p:List Int}{at':Nat}(h:Pth b p at'):∃l,zci b p=some l∧(∀v,inV b p v=zaK v (zcU l))∧zgD b p=(b::l).getLastD noB∧p.length % 2=0:=by
 induction h with
 |nil h hk=>exact⟨[],by rw[zci],fun v=>by rw[inV,zsB],by rw[zgD];rfl,rfl⟩
 |@step b i k p at' hi h4 hk h ih=>
  obtain⟨l,h1,h2,h3,h5⟩:=ih
  refine⟨((if b.conds[i].kind=3∧k=1 then[b.conds[i].boxes.getD 0 noB]else[])++[b.conds[i].boxes[k]])++l,?_,fun v=>?_,?_,?_⟩
  ·rw[zci,zeL hi hk]
   simp only[h1,Option.map_some]
  ·rw[zjx hi hk,h2]
   unfold zbH
   have e:((k:Int)=1)=(k=1):=propext (by omega)
   simp only[e]
   by_cases hc:b.conds[i].kind=3∧k=1
   ·rw[if_pos hc,if_pos hc,List.append_assoc,List.singleton_append,List.singleton_append,zdL,zdL]
   ·rw[if_neg hc,if_neg hc,List.nil_append,List.singleton_append,zdL]
  ·rw[zdE hi hk,h3]
   by_cases hc:b.conds[i].kind=3∧k=1
   ·rw[if_pos hc];simp[List.getLastD_eq_getLast?,List.getLast?_cons]
   ·rw[if_neg hc];simp[List.getLastD_eq_getLast?,List.getLast?_cons]
  ·simp only[List.length_cons];omega
def zeW (b:Box)(p:List Int):List Box:=b::(zci b p).getD []
def ze6 (b:Box)(p:List Int)(at':Nat):List Box:=(zcj (zcU (zeW b p)) (((zeW b p).getLastD noB).conds.getD at' zsL)).map fun w=>zde (zqo b p at' w)
theorem ztK {b:Box}(hb:okB b):(opB b=none∧zej b=none)∨∃p at',opB b=some (p,at')∧Pth b p at'∧zej b=some (ze6 b p at'):=by
 unfold zej
 rcases zr3 b hb with⟨h1,h2⟩|⟨p,at',h1,h2,h3⟩
 ·exact .inl ⟨h1,by rw[h2];rfl⟩
 ·refine .inr ⟨p,at',h1,h2,?_⟩
  obtain⟨l,g1,g2,g3,_⟩:=zfD h2
  rw[h3]
  show some _=some _
  congr 1
  unfold ze6 zeW zc3
  rw[g1,Option.getD_some,←g3,g2]
  have e:zaK (zaK noB b) (zcU l)=zcU (b::l):=by
   rw[←zdL];unfold zaK;rw[zcf,zce,List.nil_append,List.nil_append,zaf]
  rw[e]
  exact List.map_map
end Go.Abs
namespace Go.Abs
open Go
def zyi:Nat→List Box→Nat→List Box→Bool×List Box
 |0,_,_,_=>(false,[])
 |_+1,[],_,out=>(true,out)
 |f+1,x::t,n,out=>if 20000<n+1 then(false,[])else match zej x with
  |none=>if 200<(zdq out x).length then(false,[])else zyi f t (n+1) (zdq out x)
  |some l=>zyi f (l++t) (n+1) out
def zkU (t:List Box)(n:Nat)(out:List Box):Bool×List Box:=zyi (20002-n) t n out
theorem zkV {x:Box}{t:List Box}{n:Nat}{out:List Box}(hn:n≤20000):zkU (x::t) n out=if 20000<n+1 then(false,[])else match zej x with
  |none=>if 200<(zdq out x).length then(false,[])else zkU t (n+1) (zdq out x)
  |some l=>zkU (l++t) (n+1) out:=by
 unfold zkU
 rw[show 20002-n=(20002-(n+1))+1 by omega,zyi]
theorem znI {n:Nat}{out:List Box}(hn:n≤20000):zkU [] n out=(true,out):=by
 unfold zkU
 rw[show 20002-n=(20002-(n+1))+1 by omega,zyi]
theorem zqY {d:Nat}(ih:∀x s t,(zcy x).code=0→ze9 x<d→s.n≤20000→zkU (x::t) s.n s.out=(if(zcF d x s).1=true then zkU t (zcF d x s).2.n (zcF d x s).2.out else(false,[]))∧((zcF d x s).1=true→(zcF d x s).2.n≤20000)):
  ∀(l:List Box) (s:RS) (t:List Box),(∀x∈l,(zcy x).code=0∧ze9 x<d)→s.n≤20000→
   zkU (l++t) s.n s.out=(if(goR (zcF d) l s).1=true then zkU t (goR (zcF d) l s).2.n (goR (zcF d) l s).2.out else(false,[]))∧((goR (zcF d) l s).1=true→(goR (zcF d) l s).2.n≤20000)
 |[],s,t,_,hn=>by rw[goR,if_pos rfl];exact⟨rfl,fun _=>hn⟩
 |x::l,s,t,h,hn=>by
  have hx:=h x (by simp)
  obtain⟨e1,e2⟩:=ih x s (l++t) hx.1 hx.2 hn
  rw[List.cons_append,e1,goR]
  by_cases hr:(zcF d x s).1=true
  ·rw[if_pos hr,if_pos hr]
   exact zqY ih l _ t (fun y hy=>h y (by simp[hy])) (e2 hr)
  ·rw[if_neg hr,if_neg hr,if_neg (by simp)]
   exact⟨rfl,fun e=>by cases e⟩
theorem zrS:∀(d:Nat) (x:Box) (s:RS) (t:List Box),(zcy x).code=0→ze9 x<d→s.n≤20000→
  zkU (x::t) s.n s.out=(if(zcF d x s).1=true then zkU t (zcF d x s).2.n (zcF d x s).2.out else(false,[]))∧((zcF d x s).1=true→(zcF d x s).2.n≤20000)
 |0,_,_,_,_,h,_=>absurd h (Nat.not_lt_zero _)
 |d+1,x,s,t,hx,ho,hn=>by
  rw[zkV hn,zcF]
  by_cases hl:20000<s.n+1
  ·rw[if_pos hl,if_pos hl,if_neg (by simp)]
   exact⟨rfl,fun e=>by cases e⟩
  rw[if_neg hl,if_neg hl]
  cases hk:zej x with
  |none=>
   simp only
   by_cases h2:200<(zdq s.out x).length
   ·rw[if_pos h2,if_neg (by simp;omega)]
    exact⟨rfl,fun e=>absurd (of_decide_eq_true e) (by omega)⟩
   ·rw[if_neg h2,if_pos (decide_eq_true (by omega))]
    exact⟨rfl,fun _=>by omega⟩
  |some l=>
   have hkk:=zjz hx hk
   exact zqY (fun x s t h1 h2 h3=>zrS d x s t h1 h2 h3) l ⟨s.n+1,s.out⟩ t (fun y hy=>⟨(hkk y hy).1,by have:=(hkk y hy).2;omega⟩) (by simp only;omega)
def zyj (b:Box):Bool×List Box:=zkU [b] 0 []
theorem zvF {b:Box}(hb:(zcy b).code=0):zyj b=if(zrR b).1=true then(true,(zrR b).2.out)else(false,[]):=by
 obtain⟨h1,h2⟩:=zrS (ze9 b+1) b ⟨0,[]⟩ [] hb (by omega) (by simp)
 unfold zyj zrR
 rw[h1]
 by_cases h:(zcF (ze9 b+1) b ⟨0,[]⟩).1=true
 ·rw[if_pos h,if_pos h,znI (h2 h)]
 ·rw[if_neg h,if_neg h]
def zmb (b:Box):Prop:=(zcy b).code=0∧zeu b=false
theorem zp3 {l:List Box}{x:Box}(hl:∀y∈l,zmb y)(hx:zmb x):∀y∈zdq l x,zmb y:=fun y hy=>by
 unfold zdq at hy
 split at hy
 ·exact hl y hy
 ·rcases List.mem_append.1 hy with h|h
  ·exact hl y h
  ·rw[List.mem_singleton.1 h];exact hx
theorem zqZ {d:Nat}(ih:∀x s,(zcy x).code=0→(∀y∈s.out,zmb y)→∀y∈(zcF d x s).2.out,zmb y):
  ∀(l:List Box) (s:RS),(∀x∈l,(zcy x).code=0)→(∀y∈s.out,zmb y)→∀y∈(goR (zcF d) l s).2.out,zmb y
 |[],s,_,hs=>by rw[goR];exact hs
 |x::l,s,h,hs=>by
  rw[goR]
  split
  ·exact zqZ ih l _ (fun y hy=>h y (by simp[hy])) (ih x s (h x (by simp)) hs)
  ·exact ih x s (h x (by simp)) hs
theorem zrT:∀(d:Nat) (x:Box) (s:RS),(zcy x).code=0→(∀y∈s.out,zmb y)→∀y∈(zcF d x s).2.out,zmb y
 |0,_,_,_,hs=>by rw[zcF];exact hs
 |d+1,x,s,hx,hs=>by
  rw[zcF]
  split
  ·exact hs
  cases hk:zej x with
  |none=>exact zp3 hs ⟨hx,(zhu (zfX hx)).1 hk⟩
  |some l=>exact zqZ (fun x s h1 h2=>zrT d x s h1 h2) l ⟨s.n+1,s.out⟩ (fun y hy=>(zjz hx hk y hy).1) hs
theorem zmY {b:Box}(h:zmb b):zrR b=(true,⟨1,[b]⟩):=by
 unfold zrR
 rw[zcF,(zhu (zfX h.1)).2 h.2]
 rfl
end Go.Abs
namespace Go.Abs
open Go
def ztc (k:Int):List UInt8:=if k=1 then[49]else if k=2 then[50]else if k=3 then[51]else if k=4 then[52]else if k=5 then[53]else[54]
def rfT (r:List Str):List UInt8:=r.flatMap fun x=>x.l++[32]
def zeR (k:Int)(n:Str)(f:zac):List UInt8:=[59,32]++ztc k++n.l++(if zax k=0 then[32]++txt f else[])
mutual
def btB:Box→List UInt8
 | .mk r cs=>[123]++rfT r++zd7 cs++[125]
def btC:zal→List UInt8
 | .mk k n f bs=>zeR k n f++zfT bs
def zfT:List Box→List UInt8
 |[]=>[]
 |b::bs=>btB b++zfT bs
def zd7:List zal→List UInt8
 |[]=>[]
 |c::cs=>btC c++zd7 cs
end
theorem zgK:∀a b:List Box,zfT (a++b)=zfT a++zfT b
 |[],b=>by rw[List.nil_append,zfT,List.nil_append]
 |c::a,b=>by rw[List.cons_append,zfT,zfT,zgK a b,List.append_assoc]
theorem zgL:∀a b:List zal,zd7 (a++b)=zd7 a++zd7 b
 |[],b=>by rw[List.nil_append,zd7,List.nil_append]
 |c::a,b=>by rw[List.cons_append,zd7,zd7,zgL a b,List.append_assoc]
def zdH (f:zac):Prop:=(∃nm ws,f= .mk 2 nm ws []∧zai nm=true∧∀w∈ws,zai w=true)∨∃a b,f= .mk 3 ⟨[]⟩ [a,b] []∧zai a=true∧zai b=true
theorem zmO {f:zac}(h:(zaL false f).code=0)(hk:f.kind=2∨f.kind=3):zdH f:=by
 rcases zst ⟨zf0 h,ze0 h⟩with rfl|⟨nm,ws,h1,h2,h3⟩|⟨a,b,h1,h2,h3⟩|h4
 ·rcases hk with h|h<;>exact absurd h (by decide)
 ·exact .inl ⟨nm,ws,h1,h2,h3⟩
 ·exact .inr ⟨a,b,h1,h2,h3⟩
 ·exfalso
  rcases h4 with⟨a,rfl,_⟩|⟨k,a,b,h1,rfl,_⟩|⟨k,nm,a,h1,rfl,_⟩
  ·rcases hk with h|h
   ·exact absurd (show(4:Int)=2 from h) (by decide)
   ·exact absurd (show(4:Int)=3 from h) (by decide)
  ·have:k=2∨k=3:=hk;omega
  ·have:k=2∨k=3:=hk;omega
theorem znP {f g:zac}{s t:List UInt8}(hf:zdH f)(hg:zdH g)(h:txt f++s=txt g++t):f=g∧s=t:=by
 rcases hf with⟨nm,ws,rfl,h1,h2⟩|⟨a,b,rfl,h1,h2⟩<;>rcases hg with⟨nm',ws',rfl,g1,g2⟩|⟨a',b',rfl,g1,g2⟩
 ·rw[zA7,zA7]at h
  obtain⟨e1,e2⟩:=ziZ (zcM h1).2 (zcM g1).2 n40 n40 h
  obtain⟨e3,e4⟩:=zv2 h2 g2 (List.cons.inj e2).2
  exact⟨by rw[zoa e1,e3],e4⟩
 ·rw[zA7,zA8]at h
  exact absurd h (zmQ h1 (by decide))
 ·rw[zA7,zA8]at h
  exact absurd h.symm (zmQ g1 (by decide))
 ·rw[zA8,zA8]at h
  obtain⟨e1,e2⟩:=ziZ (zcM h1).2 (zcM g1).2 n32 n32 (List.cons.inj h).2
  simp only[List.cons.injEq,true_and]at e2
  obtain⟨e3,e4⟩:=ziZ (zcM h2).2 (zcM g2).2 n41 n41 e2
  exact⟨by rw[zoa e1,zoa e3],(List.cons.inj e4).2⟩
mutual
def zxQ:Box→Prop
 | .mk r cs=>(∀x∈r,zai x=true)∧zlQ cs
def zxR:zal→Prop
 | .mk k n f bs=>1≤k∧k≤4∧n=⟨[]⟩∧(bs.length:Int)=zax k∧(k=1→zdH f)∧(k≠1→f= .mk 0 ⟨[]⟩ [] [])∧zlP bs
def zlP:List Box→Prop
 |[]=>True
 |b::bs=>zxQ b∧zlP bs
def zlQ:List zal→Prop
 |[]=>True
 |c::cs=>zxR c∧zlQ cs
end
theorem zgM {c:zal}{r:List Str}(h:zbb c r=0)(hk:¬4<c.kind):1≤c.kind∧c.kind≤4∧c.name=⟨[]⟩∧(c.boxes.length:Int)=zax c.kind∧(c.kind=1→zdH c.form)∧(c.kind≠1→c.form= .mk 0 ⟨[]⟩ [] []):=by
 have hs:=zbj h
 have hn:c.name=⟨[]⟩∧(0<zax c.kind→zbJ c.form=true):=by
  unfold zbb at h
  by_cases h1:zax c.kind<0
  ·rw[if_pos h1]at h;exact absurd h (by decide)
  rw[if_neg h1,if_neg (fun e=>e hs.2.2.1)]at h
  by_cases h3:(c.kind≠5∧c.name≠⟨[]⟩∨0<zax c.kind∧zbJ c.form=false)
  ·rw[if_pos h3]at h;exact absurd h (by decide)
  refine⟨Decidable.not_not.1 fun e=>h3 (.inl ⟨by omega,e⟩),fun h0=>?_⟩
  cases hf:zbJ c.form with
  |true=>rfl
  |false=>exact absurd (.inr ⟨h0,hf⟩) h3
 refine⟨hs.1,by omega,hn.1,hs.2.2.1,fun h1=>zmO (hs.2.2.2 h1) ?_,fun h1=>?_⟩
 ·unfold zbb at h
  have hb:zax c.kind=0:=by rw[h1];rfl
  rw[if_neg (by omega),if_neg (fun e=>e hs.2.2.1)]at h
  by_cases h3:(c.kind≠5∧c.name≠⟨[]⟩∨0<zax c.kind∧zbJ c.form=false)
  ·rw[if_pos h3]at h;exact absurd h (by decide)
  rw[if_neg h3,if_neg (by omega),if_neg (fun e=>e (hs.2.2.2 h1))]at h
  by_cases h4:(c.kind=1∧c.form.kind≠2∧c.form.kind≠3∨c.kind=5∧(c.form.kind≠2∨c.form.words.length≠0))
  ·rw[if_pos h4]at h;exact absurd h (by decide)
  ·by_cases h5:c.form.kind=2∨c.form.kind=3
   ·exact h5
   ·exact absurd (.inl ⟨h1,fun e=>h5 (.inl e),fun e=>h5 (.inr e)⟩) h4
 ·have hb:0<zax c.kind:=by
   unfold zax
   rw[if_neg (by omega)]
   split
   ·decide
   ·rw[if_pos (by omega)];decide
  have:=hn.2 hb
  unfold zbJ at this
  simp only[Bool.and_eq_true,decide_eq_true_eq]at this
  cases hf:c.form with
  |mk k n w s=>
   rw[hf]at this
   obtain⟨⟨⟨a1,a2⟩,a3⟩,a4⟩:=this
   have a1:k=0:=a1
   have a2:n=⟨[]⟩:=a2
   have a3:w=[]:=List.eq_nil_of_length_eq_zero a3
   have a4:s=[]:=List.eq_nil_of_length_eq_zero a4
   rw[a1,a2,a3,a4]
mutual
theorem zm6:∀(b:Box) (d m:Int),zfU b d m→zeu b=false→zxQ b
 | .mk r cs,d,m,h,hu=>by
  rw[zfU]at h;rw[zeu]at hu;rw[zxQ]
  exact⟨h.2.2.1,zn9 r cs d h.2.2.2 hu⟩
theorem zwP:∀(r:List Str) (c:zal) (d:Int),zgQ r c d→zih c=false→zxR c
 |r,.mk k n f bs,d,h,hu=>by
  rw[zgQ]at h;rw[zih,Bool.or_eq_false_iff,decide_eq_false_iff_not]at hu;rw[zxR]
  obtain⟨h1,h2,h3,h4,h5,h6⟩:=zgM h.1 hu.1
  exact⟨h1,h2,h3,h4,h5,h6,zn8 bs _ _ h.2 hu.2⟩
theorem zn8:∀(bs:List Box) (d m:Int),zbd bs d m→zeT bs=false→zlP bs
 |[],_,_,_,_=>by rw[zlP];trivial
 |b::bs,d,m,h,hu=>by
  rw[zbd]at h;rw[zeT,Bool.or_eq_false_iff]at hu;rw[zlP]
  exact⟨zm6 b d m h.1 hu.1,zn8 bs d m h.2 hu.2⟩
theorem zn9:∀(r:List Str) (cs:List zal) (d:Int),zaU r cs d→zfN cs=false→zlQ cs
 |_,[],_,_,_=>by rw[zlQ];trivial
 |r,c::cs,d,h,hu=>by
  rw[zaU]at h;rw[zfN,Bool.or_eq_false_iff]at hu;rw[zlQ]
  exact⟨zwP r c d h.1 hu.1,zn9 r cs d h.2 hu.2⟩
end
def zzR (s:List UInt8):Prop:=∃x r,s=x::r∧(x=59∨x=125)
theorem zqk {s:List UInt8}(h:zzR s){w:Str}(hw:zai w=true){x:List UInt8}:w.l++x≠s:=fun e=>by
 obtain⟨c,r,rfl,hc⟩:=h
 exact zmQ hw (c:=c) (by rcases hc with rfl|rfl<;>decide) e
theorem zu4:∀{r r':List Str} {s t:List UInt8},(∀x∈r,zai x=true)→(∀x∈r',zai x=true)→zzR s→zzR t→rfT r++s=rfT r'++t→r=r'∧s=t
 |[],[],_,_,_,_,_,_,h=>⟨rfl,h⟩
 |[],x::r',s,t,_,h2,hs,_,h=>by
  unfold rfT at h
  rw[List.flatMap_cons,List.flatMap_nil,List.nil_append,List.append_assoc,List.append_assoc]at h
  exact absurd h.symm (zqk hs (h2 x (by simp)))
 |x::r,[],s,t,h1,_,_,ht,h=>by
  unfold rfT at h
  rw[List.flatMap_cons,List.flatMap_nil,List.nil_append,List.append_assoc,List.append_assoc]at h
  exact absurd h (zqk ht (h1 x (by simp)))
 |x::r,y::r',s,t,h1,h2,hs,ht,h=>by
  unfold rfT at h
  rw[List.flatMap_cons,List.flatMap_cons,List.append_assoc,List.append_assoc,List.append_assoc,List.append_assoc]at h
  obtain⟨e1,e2⟩:=ziZ (zcM (h1 x (by simp))).2 (zcM (h2 y (by simp))).2 n32 n32 h
  obtain⟨e3,e4⟩:=zu4 (fun z hz=>h1 z (by simp[hz])) (fun z hz=>h2 z (by simp[hz])) hs ht (List.cons.inj e2).2
  exact⟨by rw[zoa e1,e3],e4⟩
theorem znp (cs:List zal)(s:List UInt8):zzR (zd7 cs++125::s):=by
 cases cs with
 |nil=>exact⟨125,s,by rw[zd7];rfl,.inr rfl⟩
 |cons c cs=>
  cases c with
  |mk k n f bs=>exact⟨59,_,by rw[zd7,btC,zeR];rfl,.inl rfl⟩
theorem zvE {k k':Int}{x y:List UInt8}(h1:1≤k∧k≤4)(h2:1≤k'∧k'≤4)(e:ztc k++x=ztc k'++y):k=k'∧x=y:=by
 have c1:k=1∨k=2∨k=3∨k=4:=by omega
 have c2:k'=1∨k'=2∨k'=3∨k'=4:=by omega
 rcases c1 with rfl|rfl|rfl|rfl<;>rcases c2 with rfl|rfl|rfl|rfl<;>first|exact⟨rfl,(List.cons.inj e).2⟩|exact absurd (List.cons.inj e).1 (by decide)
mutual
theorem zqh:∀(b b':Box) (s t:List UInt8),zxQ b→zxQ b'→btB b++s=btB b'++t→b=b'∧s=t
 | .mk r cs,.mk r' cs',s,t,h,h',e=>by
  rw[zxQ]at h h'
  rw[btB,btB]at e
  simp only[List.append_assoc,List.cons_append,List.nil_append,List.cons.injEq,true_and]at e
  obtain⟨e1,e2⟩:=zu4 h.1 h'.1 (znp cs s) (znp cs' t) e
  obtain⟨e3,e4⟩:=znq cs cs' s t h.2 h'.2 e2
  exact⟨by rw[e1,e3],e4⟩
theorem zvt:∀(c c':zal) (s t:List UInt8),zxR c→zxR c'→btC c++s=btC c'++t→c=c'∧s=t
 | .mk k n f bs,.mk k' n' f' bs',s,t,h,h',e=>by
  rw[zxR]at h h'
  obtain⟨h1,h2,rfl,h4,h5,h6,h7⟩:=h
  obtain⟨g1,g2,rfl,g4,g5,g6,g7⟩:=h'
  rw[btC,btC,zeR,zeR]at e
  simp only[List.append_assoc,List.cons_append,List.nil_append,List.cons.injEq,true_and]at e
  obtain⟨rfl,e2⟩:=zvE ⟨h1,h2⟩ ⟨g1,g2⟩ e
  by_cases hk:k=1
  ·subst hk
   rw[if_pos (by decide),if_pos (by decide)]at e2
   simp only[List.append_assoc,List.cons_append,List.nil_append,List.cons.injEq,true_and]at e2
   obtain⟨rfl,e4⟩:=znP (h5 rfl) (g5 rfl) e2
   rw[zAS h4,zAS g4]at*
   exact⟨rfl,by rw[zfT]at e4;exact e4⟩
  ·rw[h6 hk,g6 hk]
   have hb:¬zax k=0:=by
    unfold zax
    rw[if_neg (by omega)]
    split
    ·decide
    ·rw[if_pos (by omega)];decide
   rw[if_neg hb,if_neg hb,List.nil_append,List.nil_append]at e2
   obtain⟨rfl,e4⟩:=znn bs bs' s t h7 g7 (by omega) e2
   exact⟨rfl,e4⟩
theorem znn:∀(bs bs':List Box) (s t:List UInt8),zlP bs→zlP bs'→bs.length=bs'.length→zfT bs++s=zfT bs'++t→bs=bs'∧s=t
 |[],[],s,t,_,_,_,e=>by rw[zfT]at e;exact⟨rfl,e⟩
 |[],_::_,_,_,_,_,hl,_=>absurd hl (by simp)
 |_::_,[],_,_,_,_,hl,_=>absurd hl (by simp)
 |b::bs,b'::bs',s,t,h,h',hl,e=>by
  rw[zlP]at h h'
  rw[zfT,zfT,List.append_assoc,List.append_assoc]at e
  obtain⟨rfl,e2⟩:=zqh b b' _ _ h.1 h'.1 e
  obtain⟨rfl,e4⟩:=znn bs bs' s t h.2 h'.2 (by simpa using hl) e2
  exact⟨rfl,e4⟩
theorem znq:∀(cs cs':List zal) (s t:List UInt8),zlQ cs→zlQ cs'→zd7 cs++125::s=zd7 cs'++125::t→cs=cs'∧s=t
 |[],[],s,t,_,_,e=>by rw[zd7]at e;exact⟨rfl,(List.cons.inj e).2⟩
 |[],.mk k n f bs::cs,s,t,_,_,e=>by
  rw[zd7,zd7,btC,zeR]at e
  exact absurd (List.cons.inj e).1 (by decide)
 | .mk k n f bs::cs,[],s,t,_,_,e=>by
  rw[zd7,zd7,btC,zeR]at e
  exact absurd (List.cons.inj e).1 (by decide)
 |c::cs,c'::cs',s,t,h,h',e=>by
  rw[zlQ]at h h'
  rw[zd7,zd7,List.append_assoc,List.append_assoc]at e
  obtain⟨rfl,e2⟩:=zvt c c' _ _ h.1 h'.1 e
  obtain⟨rfl,e4⟩:=znq cs cs' s t h.2 h'.2 e2
  exact⟨rfl,e4⟩
end
def btS (b:Box):Str:=⟨btB b⟩
theorem zvw {a b:Box}(ha:(zcy a).code=0∧zeu a=false)(hb:(zcy b).code=0∧zeu b=false)(h:btS a=btS b):a=b:=
 (zqh a b [] [] (zm6 a 1 200 (VB.of ha.1).loc ha.2) (zm6 b 1 200 (VB.of hb.1).loc hb.2) (by rw[show btB a=btB b from congrArg Str.l h])).1
end Go.Abs
