import Derived.Test.YtkkffhphodngkaaDoorFC
set_option linter.unusedSimpArgs false
namespace Go.Abs
open Go
mutual
inductive zc2 where
 |mk (kind:Int) (name:Str) (form:zaf) (boxes:List Box)
inductive Box where
 |mk (refs:List Str) (conds:List zc2)
end
def zc2.kind:zc2→Int| .mk k _ _ _=>k
def zc2.name:zc2→Str| .mk _ n _ _=>n
def zc2.form:zc2→zaf| .mk _ _ f _=>f
def zc2.boxes:zc2→List Box| .mk _ _ _ b=>b
def Box.refs:Box→List Str| .mk r _=>r
def Box.conds:Box→List zc2| .mk _ c=>c
@[go_sem] theorem zy6 {k n f b}:(zc2.mk k n f b).kind=k:=rfl
@[go_sem] theorem zy7 {k n f b}:(zc2.mk k n f b).name=n:=rfl
@[go_sem] theorem zy5 {k n f b}:(zc2.mk k n f b).form=f:=rfl
@[go_sem] theorem zxQ {k n f b}:(zc2.mk k n f b).boxes=b:=rfl
@[go_sem] theorem zAW {r c}:(Box.mk r c).refs=r:=rfl
@[go_sem] theorem zyU {r c}:(Box.mk r c).conds=c:=rfl
@[go_sem] theorem zA0 {c:zc2}:zc2.mk c.kind c.name c.form c.boxes=c:=by cases c;rfl
@[go_sem] theorem zCx {b:Box}:Box.mk b.refs b.conds=b:=by cases b;rfl
mutual
def zxV:zc2→FD
 | .mk k n f b=> .agg [.i .i64 k,.s n.l,.i .i64 f.kind,.s f.name.l,.sl (f.words.map enc),.sl (f.subs.map enc),.sl (zpL b)]
def zxU:Box→FD
 | .mk r c=> .agg [.sl (r.map enc),.sl (zpM c)]
def zpL:List Box→List FD
 |[]=>[]
 |b::bs=>zxU b::zpL bs
def zpM:List zc2→List FD
 |[]=>[]
 |c::cs=>zxV c::zpM cs
end
mutual
def zxS:FD→zc2
 | .agg [.i _ k,.s n,.i _ fk,.s fn,.sl fw,.sl fs,.sl b]=> .mk k ⟨n⟩ (.mk fk ⟨fn⟩ (fw.map dec) (fs.map dec)) (zpD b)
 |_=> .mk 0 ⟨[]⟩ (.mk 0 ⟨[]⟩ [] []) []
def zxR:FD→Box
 | .agg [.sl r,.sl c]=> .mk (r.map dec) (zpE c)
 |_=> .mk [] []
def zpD:List FD→List Box
 |[]=>[]
 |x::xs=>zxR x::zpD xs
def zpE:List FD→List zc2
 |[]=>[]
 |x::xs=>zxS x::zpE xs
end
mutual
theorem zld:∀c,zxS (zxV c)=c
 | .mk k n f b=>by simp only[zxV,zxS,zdi,zhV b,zac,zad]
theorem zlb:∀b,zxR (zxU b)=b
 | .mk r c=>by simp only[zxU,zxR,zdi,zhW c]
theorem zhV:∀b,zpD (zpL b)=b
 |[]=>rfl
 |b::bs=>by simp only[zpL,zpD,zlb b,zhV bs]
theorem zhW:∀c,zpE (zpM c)=c
 |[]=>rfl
 |c::cs=>by simp only[zpM,zpE,zld c,zhW cs]
end
instance:Enc zc2:=⟨zxV,zxS,zld⟩
instance:Enc Box:=⟨zxU,zxR,zlb⟩
theorem zlm:∀s:List Box,zpL s=s.map enc
 |[]=>rfl
 |f::fs=>by rw[zpL,zlm fs];rfl
theorem zln:∀s:List zc2,zpM s=s.map enc
 |[]=>rfl
 |f::fs=>by rw[zpM,zln fs];rfl
theorem zlc:∀s:List FD,zpD s=dec (α:=List Box) (.sl s)
 |[]=>rfl
 |f::fs=>by rw[zpD,zlc fs];rfl
theorem zle:∀s:List FD,zpE s=dec (α:=List zc2) (.sl s)
 |[]=>rfl
 |f::fs=>by rw[zpE,zle fs];rfl
@[go_sem] theorem zoo {c:zc2}:enc c= .agg [.i .i64 c.kind,.s c.name.l,.i .i64 c.form.kind,.s c.form.name.l,.sl (c.form.words.map enc),.sl (c.form.subs.map enc),.sl (c.boxes.map enc)]:=by
 cases c with
 |mk k n f b=>show zxV _=_;rw[zxV,zlm];rfl
@[go_sem] theorem zrG {b:Box}:enc b= .agg [.sl (b.refs.map enc),.sl (b.conds.map enc)]:=by
 cases b with
 |mk r c=>show zxU _=_;rw[zxU,zln];rfl
@[go_sem] theorem zA3 {i j k n fk fn fw fs b}:dec (α:=zc2) (.agg [.i i k,.s n,.i j fk,.s fn,.sl fw,.sl fs,.sl b])= .mk k ⟨n⟩ (.mk fk ⟨fn⟩ (dec (.sl fw)) (dec (.sl fs))) (dec (.sl b)):=by
 show zxS _=_;rw[zxS,zlc];rfl
@[go_sem] theorem zCB {r c}:dec (α:=Box) (.agg [.sl r,.sl c])= .mk (dec (.sl r)) (dec (.sl c)):=by
 show zxR _=_;rw[zxR,zle];rfl
instance:Kc zc2 7:=⟨fun f=>by rw[zoo];rfl⟩
instance:Kc Box 2:=⟨fun f=>by rw[zrG];rfl⟩
@[go_sem] theorem zyx {l:List zc2}:zbs (l.map enc) 7=True:=eq_true (zdF l)
@[go_sem] theorem zyw {l:List Box}:zbs (l.map enc) 2=True:=eq_true (zdF l)
@[go_sem] theorem zwA {l:List zc2}:(zae (l.map enc)).all zcx=true:=by
 rw[List.all_eq_true]
 intro d hd
 simp only[zae,List.mem_flatMap,List.mem_map]at hd
 obtain⟨_,⟨a,_,rfl⟩,x,hx,rfl⟩:=hd
 simp only[zoo,FD.cells,List.mem_cons,List.not_mem_nil,or_false]at hx
 rcases hx with rfl|rfl|rfl|rfl|rfl|rfl|rfl<;>rfl
@[go_sem] theorem zwz {l:List Box}:(zae (l.map enc)).all zcx=true:=by
 rw[List.all_eq_true]
 intro d hd
 simp only[zae,List.mem_flatMap,List.mem_map]at hd
 obtain⟨_,⟨a,_,rfl⟩,x,hx,rfl⟩:=hd
 simp only[zrG,FD.cells,List.mem_cons,List.not_mem_nil,or_false]at hx
 rcases hx with rfl|rfl<;>rfl
mutual
def zc2.size:zc2→Nat
 | .mk _ _ _ b=>Box.sizes b+1
def Box.size:Box→Nat
 | .mk _ c=>zc2.sizes c+1
def Box.sizes:List Box→Nat
 |[]=>0
 |b::bs=>b.size+Box.sizes bs
def zc2.sizes:List zc2→Nat
 |[]=>0
 |c::cs=>c.size+zc2.sizes cs
end
theorem Box.size_mem:∀{l:List Box} {f:Box},f∈l→f.size≤Box.sizes l
 |g::l,f,h=>by
  rw[Box.sizes]
  rcases List.mem_cons.1 h with rfl|h
  ·omega
  ·have:=Box.size_mem h;omega
theorem zc2.size_mem:∀{l:List zc2} {f:zc2},f∈l→f.size≤zc2.sizes l
 |g::l,f,h=>by
  rw[zc2.sizes]
  rcases List.mem_cons.1 h with rfl|h
  ·omega
  ·have:=zc2.size_mem h;omega
theorem Box.size_sub {b:Box}{c:zc2}(h:c∈b.conds):c.size<b.size:=by
 cases b with
 |mk r cs=>rw[Box.size];have:=zc2.size_mem (show c∈cs from h);omega
theorem zc2.size_sub {c:zc2}{b:Box}(h:b∈c.boxes):b.size<c.size:=by
 cases c with
 |mk k n f bs=>rw[zc2.size];have:=Box.size_mem (show b∈bs from h);omega
def znY (k:Int):Int:=if k=1∨k=5 then 0 else if k=2∨k=6 then 1 else if k=3∨k=4 then 2 else-1
def zAm (f:zaf):Bool:=decide (f.kind=0)&&decide (f.name=⟨[]⟩)&&decide (f.words.length=0)&&decide (f.subs.length=0)
def zy4 (c:zc2)(refs:List Str):Int:=
 if znY c.kind<0 then 4 else if¬(c.boxes.length:Int)=znY c.kind then 9 else if c.kind≠5∧c.name≠⟨[]⟩∨0<znY c.kind∧zAm c.form=false then 5
 else if 0<znY c.kind then 0 else if(zaA false c.form).code≠0 then(zaA false c.form).code
 else if c.kind=1∧c.form.kind≠2∧c.form.kind≠3∨c.kind=5∧(c.form.kind≠2∨c.form.words.length≠0)then 5 else if c.kind=5∧c.name∉refs then 6 else 0
def zmd:List Str→List Str→Int×List Str
 |refs,[]=>(0,refs)
 |refs,x::xs=>if zax x=false then(10,refs)else if x∈refs then(7,refs)else zmd (refs++[x]) xs
structure BS where
 e:zcD
 n:Nat
 refs:List Str
mutual
def zAV:Box→Int→Int→Nat→List Str→BS
 | .mk r cs,depth,most,n,refs=>
  if 200<n+1∨10<depth then⟨⟨1,n⟩,n+1,refs⟩
  else if most<r.length∨200<refs.length+r.length then⟨⟨2,n⟩,n+1,refs⟩
  else if(zmd refs r).1≠0 then⟨⟨(zmd refs r).1,n⟩,n+1,(zmd refs r).2⟩
  else zvr r cs depth (n+1) (zmd refs r).2
def zvr:List Str→List zc2→Int→Nat→List Str→BS
 |_,[],_,n,refs=>⟨⟨0,0⟩,n,refs⟩
 |r,c::cs,depth,n,refs=>if(ztO r c depth n refs).e.code≠0 then ztO r c depth n refs else zvr r cs depth (ztO r c depth n refs).n (ztO r c depth n refs).refs
def ztO:List Str→zc2→Int→Nat→List Str→BS
 |r,.mk k nm f bs,depth,n,refs=>
  if 200<n+1 then⟨⟨1,n⟩,n+1,refs⟩else if zy4 (.mk k nm f bs) r≠0 then⟨⟨zy4 (.mk k nm f bs) r,n⟩,n+1,refs⟩
  else zyV bs (depth+1) (if k=6 then 2 else 200) (n+1) refs
def zyV:List Box→Int→Int→Nat→List Str→BS
 |[],_,_,n,refs=>⟨⟨0,0⟩,n,refs⟩
 |b::bs,depth,most,n,refs=>if(zAV b depth most n refs).e.code≠0 then zAV b depth most n refs else zyV bs depth most (zAV b depth most n refs).n (zAV b depth most n refs).refs
end
end Go.Abs
