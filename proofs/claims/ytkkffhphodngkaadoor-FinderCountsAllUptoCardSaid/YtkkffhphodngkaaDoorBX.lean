import Derived.Test.YtkkffhphodngkaaDoorFC
set_option linter.unusedSimpArgs false
namespace Go.Abs
open Go
mutual
inductive zcS where
 |mk (kind:Int) (name:Str) (form:zac) (boxes:List Box)
inductive Box where
 |mk (refs:List Str) (conds:List zcS)
end
def zcS.kind:zcS→Int| .mk k _ _ _=>k
def zcS.name:zcS→Str| .mk _ n _ _=>n
def zcS.form:zcS→zac| .mk _ _ f _=>f
def zcS.boxes:zcS→List Box| .mk _ _ _ b=>b
def Box.refs:Box→List Str| .mk r _=>r
def Box.conds:Box→List zcS| .mk _ c=>c
@[go_sem] theorem zxV {k n f b}:(zcS.mk k n f b).kind=k:=rfl
@[go_sem] theorem zxW {k n f b}:(zcS.mk k n f b).name=n:=rfl
@[go_sem] theorem zxU {k n f b}:(zcS.mk k n f b).form=f:=rfl
@[go_sem] theorem zwB {k n f b}:(zcS.mk k n f b).boxes=b:=rfl
@[go_sem] theorem zzH {r c}:(Box.mk r c).refs=r:=rfl
@[go_sem] theorem zxJ {r c}:(Box.mk r c).conds=c:=rfl
@[go_sem] theorem zzL {c:zcS}:zcS.mk c.kind c.name c.form c.boxes=c:=by cases c;rfl
@[go_sem] theorem zBi {b:Box}:Box.mk b.refs b.conds=b:=by cases b;rfl
mutual
def zwH:zcS→FD
 | .mk k n f b=> .agg [.i .i64 k,.s n.l,.i .i64 f.kind,.s f.name.l,.sl (f.words.map enc),.sl (f.subs.map enc),.sl (zoR b)]
def zwG:Box→FD
 | .mk r c=> .agg [.sl (r.map enc),.sl (zoS c)]
def zoR:List Box→List FD
 |[]=>[]
 |b::bs=>zwG b::zoR bs
def zoS:List zcS→List FD
 |[]=>[]
 |c::cs=>zwH c::zoS cs
end
mutual
def zwD:FD→zcS
 | .agg [.i _ k,.s n,.i _ fk,.s fn,.sl fw,.sl fs,.sl b]=> .mk k ⟨n⟩ (.mk fk ⟨fn⟩ (fw.map dec) (fs.map dec)) (zoJ b)
 |_=> .mk 0 ⟨[]⟩ (.mk 0 ⟨[]⟩ [] []) []
def zwC:FD→Box
 | .agg [.sl r,.sl c]=> .mk (r.map dec) (zoK c)
 |_=> .mk [] []
def zoJ:List FD→List Box
 |[]=>[]
 |x::xs=>zwC x::zoJ xs
def zoK:List FD→List zcS
 |[]=>[]
 |x::xs=>zwD x::zoK xs
end
mutual
theorem zku:∀c,zwD (zwH c)=c
 | .mk k n f b=>by simp only[zwH,zwD,zc5,zhg b,zab,zag]
theorem zks:∀b,zwC (zwG b)=b
 | .mk r c=>by simp only[zwG,zwC,zc5,zhh c]
theorem zhg:∀b,zoJ (zoR b)=b
 |[]=>rfl
 |b::bs=>by simp only[zoR,zoJ,zks b,zhg bs]
theorem zhh:∀c,zoK (zoS c)=c
 |[]=>rfl
 |c::cs=>by simp only[zoS,zoK,zku c,zhh cs]
end
instance:Enc zcS:=⟨zwH,zwD,zku⟩
instance:Enc Box:=⟨zwG,zwC,zks⟩
theorem zkD:∀s:List Box,zoR s=s.map enc
 |[]=>rfl
 |f::fs=>by rw[zoR,zkD fs];rfl
theorem zkE:∀s:List zcS,zoS s=s.map enc
 |[]=>rfl
 |f::fs=>by rw[zoS,zkE fs];rfl
theorem zkt:∀s:List FD,zoJ s=dec (α:=List Box) (.sl s)
 |[]=>rfl
 |f::fs=>by rw[zoJ,zkt fs];rfl
theorem zkv:∀s:List FD,zoK s=dec (α:=List zcS) (.sl s)
 |[]=>rfl
 |f::fs=>by rw[zoK,zkv fs];rfl
@[go_sem] theorem znv {c:zcS}:enc c= .agg [.i .i64 c.kind,.s c.name.l,.i .i64 c.form.kind,.s c.form.name.l,.sl (c.form.words.map enc),.sl (c.form.subs.map enc),.sl (c.boxes.map enc)]:=by
 cases c with
 |mk k n f b=>show zwH _=_;rw[zwH,zkD];rfl
@[go_sem] theorem zqP {b:Box}:enc b= .agg [.sl (b.refs.map enc),.sl (b.conds.map enc)]:=by
 cases b with
 |mk r c=>show zwG _=_;rw[zwG,zkE];rfl
@[go_sem] theorem zzO {i j k n fk fn fw fs b}:dec (α:=zcS) (.agg [.i i k,.s n,.i j fk,.s fn,.sl fw,.sl fs,.sl b])= .mk k ⟨n⟩ (.mk fk ⟨fn⟩ (dec (.sl fw)) (dec (.sl fs))) (dec (.sl b)):=by
 show zwD _=_;rw[zwD,zkt];rfl
@[go_sem] theorem zBm {r c}:dec (α:=Box) (.agg [.sl r,.sl c])= .mk (dec (.sl r)) (dec (.sl c)):=by
 show zwC _=_;rw[zwC,zkv];rfl
instance:Kc zcS 7:=⟨fun f=>by rw[znv];rfl⟩
instance:Kc Box 2:=⟨fun f=>by rw[zqP];rfl⟩
@[go_sem] theorem zxj {l:List zcS}:zbi (l.map enc) 7=True:=eq_true (zdo l)
@[go_sem] theorem zxi {l:List Box}:zbi (l.map enc) 2=True:=eq_true (zdo l)
@[go_sem] theorem zvo {l:List zcS}:(zad (l.map enc)).all zcF=true:=by
 rw[List.all_eq_true]
 intro d hd
 simp only[zad,List.mem_flatMap,List.mem_map]at hd
 obtain⟨_,⟨a,_,rfl⟩,x,hx,rfl⟩:=hd
 simp only[znv,FD.cells,List.mem_cons,List.not_mem_nil,or_false]at hx
 rcases hx with rfl|rfl|rfl|rfl|rfl|rfl|rfl<;>rfl
@[go_sem] theorem zvn {l:List Box}:(zad (l.map enc)).all zcF=true:=by
 rw[List.all_eq_true]
 intro d hd
 simp only[zad,List.mem_flatMap,List.mem_map]at hd
 obtain⟨_,⟨a,_,rfl⟩,x,hx,rfl⟩:=hd
 simp only[zqP,FD.cells,List.mem_cons,List.not_mem_nil,or_false]at hx
 rcases hx with rfl|rfl<;>rfl
mutual
def zcS.size:zcS→Nat
 | .mk _ _ _ b=>Box.sizes b+1
def Box.size:Box→Nat
 | .mk _ c=>zcS.sizes c+1
def Box.sizes:List Box→Nat
 |[]=>0
 |b::bs=>b.size+Box.sizes bs
def zcS.sizes:List zcS→Nat
 |[]=>0
 |c::cs=>c.size+zcS.sizes cs
end
theorem Box.size_mem:∀{l:List Box} {f:Box},f∈l→f.size≤Box.sizes l
 |g::l,f,h=>by
  rw[Box.sizes]
  rcases List.mem_cons.1 h with rfl|h
  ·omega
  ·have:=Box.size_mem h;omega
theorem zcS.size_mem:∀{l:List zcS} {f:zcS},f∈l→f.size≤zcS.sizes l
 |g::l,f,h=>by
  rw[zcS.sizes]
  rcases List.mem_cons.1 h with rfl|h
  ·omega
  ·have:=zcS.size_mem h;omega
theorem Box.size_sub {b:Box}{c:zcS}(h:c∈b.conds):c.size<b.size:=by
 cases b with
 |mk r cs=>rw[Box.size];have:=zcS.size_mem (show c∈cs from h);omega
theorem zcS.size_sub {c:zcS}{b:Box}(h:b∈c.boxes):b.size<c.size:=by
 cases c with
 |mk k n f bs=>rw[zcS.size];have:=Box.size_mem (show b∈bs from h);omega
def zm5 (k:Int):Int:=if k=1∨k=5 then 0 else if k=2∨k=6 then 1 else if k=3∨k=4 then 2 else-1
def zy8 (f:zac):Bool:=decide (f.kind=0)&&decide (f.name=⟨[]⟩)&&decide (f.words.length=0)&&decide (f.subs.length=0)
def zxT (c:zcS)(refs:List Str):Int:=
 if zm5 c.kind<0 then 4 else if¬(c.boxes.length:Int)=zm5 c.kind then 9 else if c.kind≠5∧c.name≠⟨[]⟩∨0<zm5 c.kind∧zy8 c.form=false then 5
 else if 0<zm5 c.kind then 0 else if(zaz false c.form).code≠0 then(zaz false c.form).code
 else if c.kind=1∧c.form.kind≠2∧c.form.kind≠3∨c.kind=5∧(c.form.kind≠2∨c.form.words.length≠0)then 5 else if c.kind=5∧c.name∉refs then 6 else 0
def zlr:List Str→List Str→Int×List Str
 |refs,[]=>(0,refs)
 |refs,x::xs=>if zaq x=false then(10,refs)else if x∈refs then(7,refs)else zlr (refs++[x]) xs
structure BS where
 e:zcV
 n:Nat
 refs:List Str
mutual
def zzG:Box→Int→Int→Nat→List Str→BS
 | .mk r cs,depth,most,n,refs=>
  if 200<n+1∨10<depth then⟨⟨1,n⟩,n+1,refs⟩
  else if most<r.length∨200<refs.length+r.length then⟨⟨2,n⟩,n+1,refs⟩
  else if(zlr refs r).1≠0 then⟨⟨(zlr refs r).1,n⟩,n+1,(zlr refs r).2⟩
  else zug r cs depth (n+1) (zlr refs r).2
def zug:List Str→List zcS→Int→Nat→List Str→BS
 |_,[],_,n,refs=>⟨⟨0,0⟩,n,refs⟩
 |r,c::cs,depth,n,refs=>if(zsK r c depth n refs).e.code≠0 then zsK r c depth n refs else zug r cs depth (zsK r c depth n refs).n (zsK r c depth n refs).refs
def zsK:List Str→zcS→Int→Nat→List Str→BS
 |r,.mk k nm f bs,depth,n,refs=>
  if 200<n+1 then⟨⟨1,n⟩,n+1,refs⟩else if zxT (.mk k nm f bs) r≠0 then⟨⟨zxT (.mk k nm f bs) r,n⟩,n+1,refs⟩
  else zxK bs (depth+1) (if k=6 then 2 else 200) (n+1) refs
def zxK:List Box→Int→Int→Nat→List Str→BS
 |[],_,_,n,refs=>⟨⟨0,0⟩,n,refs⟩
 |b::bs,depth,most,n,refs=>if(zzG b depth most n refs).e.code≠0 then zzG b depth most n refs else zxK bs depth most (zzG b depth most n refs).n (zzG b depth most n refs).refs
end
end Go.Abs
