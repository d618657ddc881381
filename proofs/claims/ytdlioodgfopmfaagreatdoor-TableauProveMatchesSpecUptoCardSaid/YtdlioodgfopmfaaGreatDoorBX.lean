import Derived.Test.YtdlioodgfopmfaaGreatDoorFC
set_option linter.unusedSimpArgs false
namespace Go.Abs
open Go
mutual
inductive zdm where
 |mk (kind:Int) (name:Str) (form:zac) (boxes:List Box)
inductive Box where
 |mk (refs:List Str) (conds:List zdm)
end
def zdm.kind:zdm→Int| .mk k _ _ _=>k
def zdm.name:zdm→Str| .mk _ n _ _=>n
def zdm.form:zdm→zac| .mk _ _ f _=>f
def zdm.boxes:zdm→List Box| .mk _ _ _ b=>b
def Box.refs:Box→List Str| .mk r _=>r
def Box.conds:Box→List zdm| .mk _ c=>c
@[go_sem] theorem zAG {k n f b}:(zdm.mk k n f b).kind=k:=rfl
@[go_sem] theorem zAH {k n f b}:(zdm.mk k n f b).name=n:=rfl
@[go_sem] theorem zAF {k n f b}:(zdm.mk k n f b).form=f:=rfl
@[go_sem] theorem zzx {k n f b}:(zdm.mk k n f b).boxes=b:=rfl
@[go_sem] theorem zCA {r c}:(Box.mk r c).refs=r:=rfl
@[go_sem] theorem zAB {r c}:(Box.mk r c).conds=c:=rfl
@[go_sem] theorem zCE {c:zdm}:zdm.mk c.kind c.name c.form c.boxes=c:=by cases c;rfl
@[go_sem] theorem zD6 {b:Box}:Box.mk b.refs b.conds=b:=by cases b;rfl
mutual
def zzE:zdm→FD
 | .mk k n f b=> .agg [.i .i64 k,.s n.l,.i .i64 f.kind,.s f.name.l,.sl (f.words.map enc),.sl (f.subs.map enc),.sl (zqs b)]
def zzD:Box→FD
 | .mk r c=> .agg [.sl (r.map enc),.sl (zqt c)]
def zqs:List Box→List FD
 |[]=>[]
 |b::bs=>zzD b::zqs bs
def zqt:List zdm→List FD
 |[]=>[]
 |c::cs=>zzE c::zqt cs
end
mutual
def zzz:FD→zdm
 | .agg [.i _ k,.s n,.i _ fk,.s fn,.sl fw,.sl fs,.sl b]=> .mk k ⟨n⟩ (.mk fk ⟨fn⟩ (fw.map dec) (fs.map dec)) (zqk b)
 |_=> .mk 0 ⟨[]⟩ (.mk 0 ⟨[]⟩ [] []) []
def zzy:FD→Box
 | .agg [.sl r,.sl c]=> .mk (r.map dec) (zql c)
 |_=> .mk [] []
def zqk:List FD→List Box
 |[]=>[]
 |x::xs=>zzy x::zqk xs
def zql:List FD→List zdm
 |[]=>[]
 |x::xs=>zzz x::zql xs
end
mutual
theorem zl4:∀c,zzz (zzE c)=c
 | .mk k n f b=>by simp only[zzE,zzz,zdy,ziu b,zad,zab]
theorem zl2:∀b,zzy (zzD b)=b
 | .mk r c=>by simp only[zzD,zzy,zdy,ziv c]
theorem ziu:∀b,zqk (zqs b)=b
 |[]=>rfl
 |b::bs=>by simp only[zqs,zqk,zl2 b,ziu bs]
theorem ziv:∀c,zql (zqt c)=c
 |[]=>rfl
 |c::cs=>by simp only[zqt,zql,zl4 c,ziv cs]
end
instance:Enc zdm:=⟨zzE,zzz,zl4⟩
instance:Enc Box:=⟨zzD,zzy,zl2⟩
theorem zmc:∀s:List Box,zqs s=s.map enc
 |[]=>rfl
 |f::fs=>by rw[zqs,zmc fs];rfl
theorem zmd:∀s:List zdm,zqt s=s.map enc
 |[]=>rfl
 |f::fs=>by rw[zqt,zmd fs];rfl
theorem zl3:∀s:List FD,zqk s=dec (α:=List Box) (.sl s)
 |[]=>rfl
 |f::fs=>by rw[zqk,zl3 fs];rfl
theorem zl5:∀s:List FD,zql s=dec (α:=List zdm) (.sl s)
 |[]=>rfl
 |f::fs=>by rw[zql,zl5 fs];rfl
@[go_sem] theorem zpa {c:zdm}:enc c= .agg [.i .i64 c.kind,.s c.name.l,.i .i64 c.form.kind,.s c.form.name.l,.sl (c.form.words.map enc),.sl (c.form.subs.map enc),.sl (c.boxes.map enc)]:=by
 cases c with
 |mk k n f b=>show zzE _=_;rw[zzE,zmc];rfl
@[go_sem] theorem zsI {b:Box}:enc b= .agg [.sl (b.refs.map enc),.sl (b.conds.map enc)]:=by
 cases b with
 |mk r c=>show zzD _=_;rw[zzD,zmd];rfl
@[go_sem] theorem zCH {i j k n fk fn fw fs b}:dec (α:=zdm) (.agg [.i i k,.s n,.i j fk,.s fn,.sl fw,.sl fs,.sl b])= .mk k ⟨n⟩ (.mk fk ⟨fn⟩ (dec (.sl fw)) (dec (.sl fs))) (dec (.sl b)):=by
 show zzz _=_;rw[zzz,zl3];rfl
@[go_sem] theorem zEe {r c}:dec (α:=Box) (.agg [.sl r,.sl c])= .mk (dec (.sl r)) (dec (.sl c)):=by
 show zzy _=_;rw[zzy,zl5];rfl
instance:Kc zdm 7:=⟨fun f=>by rw[zpa];rfl⟩
instance:Kc Box 2:=⟨fun f=>by rw[zsI];rfl⟩
@[go_sem] theorem zAe {l:List zdm}:zbC (l.map enc) 7=True:=eq_true (zdW l)
@[go_sem] theorem zAd {l:List Box}:zbC (l.map enc) 2=True:=eq_true (zdW l)
@[go_sem] theorem zys {l:List zdm}:(zaf (l.map enc)).all zcL=true:=by
 rw[List.all_eq_true]
 intro d hd
 simp only[zaf,List.mem_flatMap,List.mem_map]at hd
 obtain⟨_,⟨a,_,rfl⟩,x,hx,rfl⟩:=hd
 simp only[zpa,FD.cells,List.mem_cons,List.not_mem_nil,or_false]at hx
 rcases hx with rfl|rfl|rfl|rfl|rfl|rfl|rfl<;>rfl
@[go_sem] theorem zyr {l:List Box}:(zaf (l.map enc)).all zcL=true:=by
 rw[List.all_eq_true]
 intro d hd
 simp only[zaf,List.mem_flatMap,List.mem_map]at hd
 obtain⟨_,⟨a,_,rfl⟩,x,hx,rfl⟩:=hd
 simp only[zsI,FD.cells,List.mem_cons,List.not_mem_nil,or_false]at hx
 rcases hx with rfl|rfl<;>rfl
mutual
def zdm.size:zdm→Nat
 | .mk _ _ _ b=>Box.sizes b+1
def Box.size:Box→Nat
 | .mk _ c=>zdm.sizes c+1
def Box.sizes:List Box→Nat
 |[]=>0
 |b::bs=>b.size+Box.sizes bs
def zdm.sizes:List zdm→Nat
 |[]=>0
 |c::cs=>c.size+zdm.sizes cs
end
theorem Box.size_mem:∀{l:List Box} {f:Box},f∈l→f.size≤Box.sizes l
 |g::l,f,h=>by
  rw[Box.sizes]
  rcases List.mem_cons.1 h with rfl|h
  ·omega
  ·have:=Box.size_mem h;omega
theorem zdm.size_mem:∀{l:List zdm} {f:zdm},f∈l→f.size≤zdm.sizes l
 |g::l,f,h=>by
  rw[zdm.sizes]
  rcases List.mem_cons.1 h with rfl|h
  ·omega
  ·have:=zdm.size_mem h;omega
theorem Box.size_sub {b:Box}{c:zdm}(h:c∈b.conds):c.size<b.size:=by
 cases b with
 |mk r cs=>rw[Box.size];have:=zdm.size_mem (show c∈cs from h);omega
theorem zdm.size_sub {c:zdm}{b:Box}(h:b∈c.boxes):b.size<c.size:=by
 cases c with
 |mk k n f bs=>rw[zdm.size];have:=Box.size_mem (show b∈bs from h);omega
def zoS (k:Int):Int:=if k=1∨k=5 then 0 else if k=2∨k=6 then 1 else if k=3∨k=4 then 2 else-1
def zBW (f:zac):Bool:=decide (f.kind=0)&&decide (f.name=⟨[]⟩)&&decide (f.words.length=0)&&decide (f.subs.length=0)
def zAE (c:zdm)(refs:List Str):Int:=
 if zoS c.kind<0 then 4 else if¬(c.boxes.length:Int)=zoS c.kind then 9 else if c.kind≠5∧c.name≠⟨[]⟩∨0<zoS c.kind∧zBW c.form=false then 5
 else if 0<zoS c.kind then 0 else if(zaE false c.form).code≠0 then(zaE false c.form).code
 else if c.kind=1∧c.form.kind≠2∧c.form.kind≠3∨c.kind=5∧(c.form.kind≠2∨c.form.words.length≠0)then 5 else if c.kind=5∧c.name∉refs then 6 else 0
def zm3:List Str→List Str→Int×List Str
 |refs,[]=>(0,refs)
 |refs,x::xs=>if zas x=false then(10,refs)else if x∈refs then(7,refs)else zm3 (refs++[x]) xs
structure BS where
 e:zeR
 n:Nat
 refs:List Str
mutual
def zCz:Box→Int→Int→Nat→List Str→BS
 | .mk r cs,depth,most,n,refs=>
  if 200<n+1∨10<depth then⟨⟨1,n⟩,n+1,refs⟩
  else if most<r.length∨200<refs.length+r.length then⟨⟨2,n⟩,n+1,refs⟩
  else if(zm3 refs r).1≠0 then⟨⟨(zm3 refs r).1,n⟩,n+1,(zm3 refs r).2⟩
  else zw8 r cs depth (n+1) (zm3 refs r).2
def zw8:List Str→List zdm→Int→Nat→List Str→BS
 |_,[],_,n,refs=>⟨⟨0,0⟩,n,refs⟩
 |r,c::cs,depth,n,refs=>if(zvp r c depth n refs).e.code≠0 then zvp r c depth n refs else zw8 r cs depth (zvp r c depth n refs).n (zvp r c depth n refs).refs
def zvp:List Str→zdm→Int→Nat→List Str→BS
 |r,.mk k nm f bs,depth,n,refs=>
  if 200<n+1 then⟨⟨1,n⟩,n+1,refs⟩else if zAE (.mk k nm f bs) r≠0 then⟨⟨zAE (.mk k nm f bs) r,n⟩,n+1,refs⟩
  else zAC bs (depth+1) (if k=6 then 2 else 200) (n+1) refs
def zAC:List Box→Int→Int→Nat→List Str→BS
 |[],_,_,n,refs=>⟨⟨0,0⟩,n,refs⟩
 |b::bs,depth,most,n,refs=>if(zCz b depth most n refs).e.code≠0 then zCz b depth most n refs else zAC bs depth most (zCz b depth most n refs).n (zCz b depth most n refs).refs
end
end Go.Abs
