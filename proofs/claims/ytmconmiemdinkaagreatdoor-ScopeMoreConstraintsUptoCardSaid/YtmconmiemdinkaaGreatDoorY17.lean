/- several texts of this proof in one; no conditions -/
import Derived.Test.YtmconmiemdinkaaGreatDoorY15
import Derived.Test.YtmconmiemdinkaaGreatDoorY16
set_option linter.unusedSimpArgs false
namespace Go.Abs
open Go
end Go.Abs
namespace Go.Abs
open Go
def zaC (l:List Int):List Nat:=l.map Int.toNat
def zcn (l:List Nat):List Int:=l.map fun n:Nat=>(n:Int)
theorem zh8 (l:List Nat):zaC (zcn l)=l:=by
 unfold zaC zcn
 rw[List.map_map]
 conv=>rhs;rw[←List.map_id l]
 exact List.map_congr_left fun n _=>Int.toNat_natCast n
end Go.Abs
namespace Go.Abs
open Go
structure zed where
 holes:List Str
 pieces:List Int
 top:Int
@[go_sem] theorem zaM {p:zed}:zed.mk p.holes p.pieces p.top=p:=by cases p;rfl
instance:Inhabited zed:=⟨⟨[],[],0⟩⟩
instance:Enc zed:=⟨fun p=> .agg [.sl (p.holes.map enc),.sl (p.pieces.map enc),.i .i64 p.top],fun x=>match x with| .agg [.sl a,.sl b,.i _ n]=>⟨a.map dec,b.map dec,n⟩|_=>⟨[],[],0⟩,fun p=>by
 cases p;simp only[zbE]⟩
@[go_sem] theorem zut {p:zed}:enc p= .agg [.sl (p.holes.map enc),.sl (p.pieces.map enc),.i .i64 p.top]:=rfl
@[go_sem] theorem zB0 {a b:List FD}{i n}:dec (α:=zed) (.agg [.sl a,.sl b,.i i n])=⟨dec (.sl a),dec (.sl b),n⟩:=rfl
instance:Kc zed 3:=⟨fun _=>rfl⟩
@[go_sem] theorem zzy {l:List zed}:zbB (l.map enc) 3=True:=eq_true (zdt l)
@[go_sem] theorem zxr {l:List zed}:(zaf (l.map enc)).all zcf=true:=by
 rw[List.all_eq_true]
 intro d hd
 simp only[zaf,List.mem_flatMap,List.mem_map]at hd
 obtain⟨_,⟨a,_,rfl⟩,x,hx,rfl⟩:=hd
 simp only[zut,FD.cells,List.mem_cons,List.not_mem_nil,or_false]at hx
 rcases hx with rfl|rfl|rfl<;>rfl
def zcN (s:zao)(l:List Nat):zed:=⟨zbt s.pieces,zcn l,zeG (nP s) l⟩
def inQ (p:zed)(h:Str):Int:=p.pieces.getD (p.holes.idxOf h) 0
theorem zke {s:zao}{l:List Nat}(h:okL s l){x:Str}(hx:x∈zbt s.pieces):inQ (zcN s l) x=(inP s l x:Nat):=by
 have h1:=List.idxOf_lt_length_of_mem hx
 unfold inQ inP zcN zcn
 simp only
 rw[List.getD_eq_getElem?_getD,List.getD_eq_getElem?_getD,List.getElem?_map,List.getElem?_eq_getElem (by rw[h.e];exact h1)]
 rfl
def ztN (s:zao)(l:List Nat)(i:Nat):Nat:=zdv ((zaW (zbc s l) (nP s+1) i).map fun j=>(zbH s j).size+1)
def zf6 (s:zao)(l:List Nat)(f:zab):Nat:=f.size+zdv ((zas f).map fun h=>ztN s l (inP s l h))
theorem zq0 {s:zao}{l:List Nat}(h:okL s l)(ht:zcX s l=true){i:Nat}(hi:i<nP s):zf6 s l (zbH s i)+1=ztN s l i:=by
 unfold zf6 ztN
 have hbe:zaW (zbc s l) (nP s+1) i=i::(zbc s l i).flatMap (zaW (zbc s l) (nP s+1)):=zjP h.g h.p (zeH ht) hi
 rw[hbe,List.map_cons]
 have hf:=ziu (zaW (zbc s l) (nP s+1)) (fun j=>(zbH s j).size+1) (zbc s l i)
 have hk:((zas (zbH s i)).map fun x=>zdv ((zaW (zbc s l) (nP s+1) (inP s l x)).map fun j=>(zbH s j).size+1))=(zbc s l i).map fun c=>zdv ((zaW (zbc s l) (nP s+1) c).map fun j=>(zbH s j).size+1):=by
  unfold zbc
  rw[List.map_map,←zbQ]
  rfl
 rw[←hk]at hf
 simp only[zdv,List.foldr_cons]at hf ⊢
 omega
end Go.Abs
namespace Go.Abs
open Go
structure onP (p:zed)(s:zao):Prop where
 l:okL s (zaC p.pieces)
 e:p=zcN s (zaC p.pieces)
 c:zg9 s
structure inT (p:zed)(s:zao):Prop extends onP p s where
 t:zcX s (zaC p.pieces)=true
def zdk (p:zed)(s:zao)(i:Int):List Int:=zcn (zaW (zbc s (zaC p.pieces)) (nP s+1) i.toNat)
def zg7 (p:zed)(s:zao)(f:zab):zab:=zbI (fun h=>zb2 s (zaC p.pieces) (nP s+1) (inP s (zaC p.pieces) h)) f
structure zhz (p:zed)(s:zao)(i:Int):Prop where
 g:inT p s
 i0:0≤i
 i1:i.toNat<nP s
structure zfL (p:zed)(s:zao)(f:zab):Prop where
 g:inT p s
 h:∀h∈zas f,h∈zbt s.pieces
 z:f.size≤1000
def zrD (p:zed)(s:zao)(i:Int):Nat:=(zaW (zbc s (zaC p.pieces)) (nP s+1) i.toNat).length
theorem zrE {p:zed}{s:zao}{i:Int}(h:zhz p s i):zdk p s i=i::(zb0 s i.toNat).flatMap fun x=>zdk p s (inP s (zaC p.pieces) x:Nat):=by
 unfold zdk
 have he:zaW (zbc s (zaC p.pieces)) (nP s+1) i.toNat=i.toNat::(zbc s (zaC p.pieces) i.toNat).flatMap (zaW (zbc s (zaC p.pieces)) (nP s+1)):=zjP h.g.l.g h.g.l.p (zeH h.g.t) h.i1
 rw[he]
 unfold zcn zbc
 rw[List.map_cons,Int.toNat_of_nonneg h.i0,List.map_flatMap,List.flatMap_map]
 simp only[Int.toNat_natCast]
theorem zuY {s:zao}{l:List Nat}(h:okL s l){i:Nat}{x:Str}(hx:x∈zb0 s i):inP s l x<nP s:=zqm h (zdX hx)
theorem zwX {p:zed}{s:zao}{i:Int}(h:zhz p s i){x:Str}(hx:x∈zb0 s i.toNat):zhz p s (inP s (zaC p.pieces) x:Nat)∧zrD p s (inP s (zaC p.pieces) x:Nat)<zrD p s i:=by
 refine⟨⟨h.g,by omega,by rw[Int.toNat_natCast];exact zuY h.g.l hx⟩,?_⟩
 unfold zrD
 have he:zaW (zbc s (zaC p.pieces)) (nP s+1) i.toNat=i.toNat::(zbc s (zaC p.pieces) i.toNat).flatMap (zaW (zbc s (zaC p.pieces)) (nP s+1)):=zjP h.g.l.g h.g.l.p (zeH h.g.t) h.i1
 rw[he,Int.toNat_natCast,List.length_cons]
 have hm:inP s (zaC p.pieces) x∈zbc s (zaC p.pieces) i.toNat:=List.mem_map_of_mem hx
 have key:∀(ks:List Nat) (g:Nat→List Nat) (c:Nat),c∈ks→(g c).length≤(ks.flatMap g).length:=by
  intro ks g c
  induction ks with
  |nil=>intro h;simp at h
  |cons a ks ih=>
   intro h
   rw[List.flatMap_cons,List.length_append]
   rcases List.mem_cons.1 h with rfl|h
   ·omega
   ·have:=ih h;omega
 have:=key _ (zaW (zbc s (zaC p.pieces)) (nP s+1)) _ hm
 omega
theorem zwY {p:zed}{s:zao}{i:Int}(h:zhz p s i):(zdk p s i).length≤6:=by
 unfold zdk zcn
 rw[List.length_map]
 have hn:=ze9 h.g.l.g (fun i hi=>zje h.g.l hi) h.g.l.p (zeH h.g.t) (nP s+1) i.toNat h.i1
 have h1:=zci (b:=List.range (nP s)) hn fun x hx=>List.mem_range.2 (zjQ h.g.l _ _ h.i1 x hx)
 rw[List.length_range]at h1
 have:=h.g.c.n6
 omega
theorem zqd {p:zed}{s:zao}{f:zab}(h:zfL p s f)(hk:f.kind=10):zg7 p s f=zg7 p s (zbH s (inP s (zaC p.pieces) f.name))∧zfL p s (zbH s (inP s (zaC p.pieces) f.name))∧zf6 s (zaC p.pieces) (zbH s (inP s (zaC p.pieces) f.name))<zf6 s (zaC p.pieces) f:=by
 obtain⟨k,nm,ws,ss⟩:=f
 simp only[zae]at hk
 subst hk
 have hnm:nm∈zbt s.pieces:=h.h nm (by rw[zas];simp)
 have hi:=zqm h.g.l hnm
 refine⟨?_,⟨h.g,fun x hx=>?_,?_⟩,?_⟩
 ·unfold zg7
  rw[zbI,if_pos rfl]
  exact zoT h.g.l h.g.t hi
 ·rw[←zbQ]at hx;exact zdX hx
 ·show(zbH s (inP s (zaC p.pieces) nm)).size≤1000
  have hm:=h.g.c.nod
  have h2:=zme s
  have h3:(zbH s (inP s (zaC p.pieces) nm)).size≤zdv ((List.range (nP s)).map fun i=>(zbH s i).size):=by
   have:=zkQ (fun i=>(zbH s i).size) (a:=[inP s (zaC p.pieces) nm]) (b:=List.range (nP s)) (by simp) (fun x hx=>by rw[List.mem_singleton.1 hx];exact List.mem_range.2 hi)
   simpa[zdv]using this
  omega
 ·have hw:=zq0 h.g.l h.g.t hi
  show zf6 s (zaC p.pieces) (zbH s (inP s (zaC p.pieces) nm))<zf6 s (zaC p.pieces) (.mk 10 nm ws ss)
  have e:zf6 s (zaC p.pieces) (.mk 10 nm ws ss)=(zab.mk 10 nm ws ss).size+ztN s (zaC p.pieces) (inP s (zaC p.pieces) nm):=by
   unfold zf6
   rw[zas,if_pos rfl]
   simp[zdv]
  rw[e]
  omega
theorem zhY {a:zab}:∀{l:List zab},a∈l→∀x∈zas a,x∈zaG l
 |[],h,x,_=>by simp at h
 |b::l,h,x,hx=>by
  rw[zaG]
  rcases List.mem_cons.1 h with rfl|h
  ·exact List.mem_append_left _ hx
  ·exact List.mem_append_right _ (zhY h x hx)
theorem zpm {w:Str→Nat}{a:zab}:∀{l:List zab},a∈l→a.size+zdv ((zas a).map w)≤zab.sizes l+zdv ((zaG l).map w)
 |[],h=>by simp at h
 |b::l,h=>by
  rw[zaG,zab.sizes,List.map_append,zhp]
  rcases List.mem_cons.1 h with rfl|h
  ·omega
  ·have:=zpm (w:=w) h;omega
theorem zsf {p:zed}{s:zao}{f a:zab}(h:zfL p s f)(hk:¬f.kind=10)(ha:a∈f.subs):zfL p s a∧zf6 s (zaC p.pieces) a<zf6 s (zaC p.pieces) f:=by
 obtain⟨k,nm,ws,ss⟩:=f
 simp only[zae]at hk
 simp only[zaR]at ha
 have hh:zas (.mk k nm ws ss)=zaG ss:=by rw[zas,if_neg hk]
 refine⟨⟨h.g,fun x hx=>h.h x (by rw[hh];exact zhY ha x hx),?_⟩,?_⟩
 ·have:=h.z
  have h2:=zab.size_sub (f:= .mk k nm ws ss) (show a∈(zab.mk k nm ws ss).subs from ha)
  omega
 ·unfold zf6
  rw[hh]
  have h1:=zpm (w:=fun h=>ztN s (zaC p.pieces) (inP s (zaC p.pieces) h)) ha
  rw[zab.size]
  omega
theorem zuO {p:zed}{s:zao}{f:zab}(hk:¬f.kind=10):zg7 p s f= .mk f.kind f.name f.words (f.subs.map (zg7 p s)):=by
 obtain⟨k,nm,ws,ss⟩:=f
 simp only[zae]at hk
 unfold zg7
 rw[zbI,if_neg hk,zd1]
 rfl
end Go.Abs
