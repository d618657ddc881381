/- several texts of this proof in one; no conditions -/
import Derived.Test.YtmconmiemdinkaaDoorY13
import Derived.Test.YtmconmiemdinkaaDoorY14
set_option linter.unusedSimpArgs false
namespace Go.Abs
open Go
def zcy (s:Nat):Nat→Nat→List Int
 |0,_=>[]
 |k+1,i=>zcy s k (i / s)++[((i % s:Nat):Int)]
theorem zff (s:Nat):∀k i,(zcy s k i).length=k
 |0,_=>rfl
 |k+1,i=>by rw[zcy,List.length_append,zff s k];rfl
theorem zjd {s:Nat}(hs:0<s):∀(n i:Nat),∀v∈zcy s n i,0≤v∧v<(s:Int)
 |0,_,v,h=>by simp[zcy]at h
 |n+1,i,v,h=>by
  rw[zcy,List.mem_append]at h
  rcases h with h|h
  ·exact zjd hs n _ v h
  ·have:v=((i % s:Nat):Int):=by simpa using h
   have:=Nat.mod_lt i hs
   omega
end Go.Abs
namespace Go.Abs
open Go
theorem zio {s:Nat}(hs:0<s):∀(k:Nat) (ds:List Nat),ds.length=k→(∀d∈ds,d<s)→∃i,i<s^k∧zcy s k i=ds.map fun d:Nat=>(d:Int)
 |0,ds,hl,_=>⟨0,by simp,by rw[List.eq_nil_of_length_eq_zero hl];rfl⟩
 |k+1,ds,hl,h=>by
  have hc:ds=[]∨∃a x,ds=a++[x]:=by
   rcases List.eq_nil_or_concat ds with h|⟨a,x,h⟩
   ·exact .inl h
   ·exact .inr ⟨a,x,by simpa using h⟩
  rcases hc with rfl|⟨a,x,rfl⟩
  ·simp at hl
  ·obtain⟨i,hi,he⟩:=zio hs k a (by simpa using hl) fun d hd=>h d (by simp[hd])
   have hx:=h x (by simp)
   have h1:(s*i+x) / s=i:=by rw[Nat.mul_add_div hs,Nat.div_eq_of_lt hx,Nat.add_zero]
   have h2:(s*i+x) % s=x:=by rw[Nat.mul_add_mod,Nat.mod_eq_of_lt hx]
   refine⟨s*i+x,?_,?_⟩
   ·rw[Nat.pow_succ,Nat.mul_comm (s^k) s]
    have:s*(i+1)≤s*s^k:=Nat.mul_le_mul_left _ hi
    rw[Nat.mul_add]at this
    omega
   ·rw[zcy,h1,h2,he,List.map_append];rfl
def zaz (l:List Int):List Nat:=l.map Int.toNat
def zay (l:List Nat):List Int:=l.map fun n:Nat=>(n:Int)
theorem zcr (l:List Nat):zaz (zay l)=l:=by
 unfold zaz zay
 rw[List.map_map]
 conv=>rhs;rw[←List.map_id l]
 exact List.map_congr_left fun n _=>Int.toNat_natCast n
theorem zkJ {l:List Int}(h:∀x∈l,0≤x):zay (zaz l)=l:=by
 unfold zaz zay
 rw[List.map_map]
 conv=>rhs;rw[←List.map_id l]
 exact List.map_congr_left fun n hn=>Int.toNat_of_nonneg (h n hn)
def okD (s:zal)(l:List Nat):Bool:=decide l.Nodup&&okS s l
def zdt (s:zal)(k:Nat):List (List Int):=((List.range k).map (zcy (nP s) (zaU s.pieces).length)).filter fun d=>okD s (zaz d)
def zb6 (s:zal):List (List Int):=if(zaU s.pieces).length+1≠nP s then[]else zdt s (nP s^(zaU s.pieces).length)
theorem zl5 (s:zal)(k:Nat):zdt s (k+1)=zdt s k++(if okD s (zaz (zcy (nP s) (zaU s.pieces).length k))=true then[zcy (nP s) (zaU s.pieces).length k]else[]):=by
 unfold zdt
 rw[List.range_succ,List.map_append,List.filter_append]
 congr 1
 simp only[List.map_cons,List.map_nil,List.filter_cons,List.filter_nil]
theorem zdx {s:zal}(h:zhx s){d:List Int}:d∈zb6 s↔∃l,l∈zdz s∧d=zay l:=by
 have hn:0<nP s:=h.n1
 constructor
 ·intro hd
  unfold zb6 at hd
  split at hd
  ·simp at hd
  rename_i hl
  unfold zdt at hd
  obtain⟨h1,h2⟩:=List.mem_filter.1 hd
  obtain⟨k,_,rfl⟩:=List.mem_map.1 h1
  unfold okD at h2
  rw[Bool.and_eq_true,decide_eq_true_eq]at h2
  have hr:=zjd hn (zaU s.pieces).length k
  refine⟨zaz (zcy (nP s) (zaU s.pieces).length k),zem.2 ⟨Decidable.not_not.1 hl,?_,h2.1,fun i hi=>?_,h2.2⟩,(zkJ fun x hx=>(hr x hx).1).symm⟩
  ·unfold zaz;rw[List.length_map,zff]
  ·obtain⟨x,hx,rfl⟩:=List.mem_map.1 hi
   have:=hr x hx
   omega
 ·rintro⟨l,hl,rfl⟩
  obtain⟨h1,h2,h3,h4,h5⟩:=zem.1 hl
  unfold zb6
  rw[if_neg (by simp[h1])]
  obtain⟨k,hk,e⟩:=zio hn (zaU s.pieces).length l h2 h4
  refine List.mem_filter.2 ⟨List.mem_map.2 ⟨k,List.mem_range.2 hk,e⟩,?_⟩
  unfold okD
  rw[show zaz (zay l)=l from zcr l,h5,decide_eq_true h3];rfl
def zpG (s:zal)(i k:Nat):Bool:=(zdz s).all fun l=>decide (k∈zaO (za3 s l) (nP s+1) i)
theorem ztI {s:zal}(h:zhx s){i k:Nat}(hi:i<nP s)(hk:k<nP s):((zb6 s).all fun d=>zdZ (zgO s (zaz d)) i (nP s+1) k)=zpG s i k:=by
 unfold zpG
 rw[Bool.eq_iff_iff,List.all_eq_true,List.all_eq_true]
 have key:∀l∈zdz s,(zdZ (zgO s l) i (nP s+1) k=true↔k∈zaO (za3 s l) (nP s+1) i):=fun l hl=>by
  obtain⟨h1,h2,h3,h4,_⟩:=zem.1 hl
  exact(zie (zxu h h1 h2 h3 h4) hi hk).symm
 constructor
 ·intro ha l hl
  have:=ha (zay l) ((zdx h).2 ⟨l,hl,rfl⟩)
  rw[zcr]at this
  simpa using(key l hl).1 this
 ·intro ha d hd
  obtain⟨l,hl,rfl⟩:=(zdx h).1 hd
  rw[zcr]
  exact(key l hl).2 (by simpa using ha l hl)
theorem zkz {s:zal}(h:zhx s):zb6 s=[]↔zdz s=[]:=by
 constructor
 ·intro e
  cases hp:zdz s with
  |nil=>rfl
  |cons l ls=>
   have:=(zdx h).2 ⟨l,by rw[hp];simp,rfl⟩
   rw[e]at this;simp at this
 ·intro e
  cases hp:zb6 s with
  |nil=>rfl
  |cons d ds=>
   obtain⟨l,hl,_⟩:=(zdx h (d:=d)).1 (by rw[hp];simp)
   rw[e]at hl;simp at hl
end Go.Abs
namespace Go.Abs
open Go
structure zd2 where
 holes:List Str
 pieces:List Int
 top:Int
@[go_sem] theorem zaD {p:zd2}:zd2.mk p.holes p.pieces p.top=p:=by cases p;rfl
instance:Inhabited zd2:=⟨⟨[],[],0⟩⟩
instance:Enc zd2:=⟨fun p=> .agg [.sl (p.holes.map enc),.sl (p.pieces.map enc),.i .i64 p.top],fun x=>match x with| .agg [.sl a,.sl b,.i _ n]=>⟨a.map dec,b.map dec,n⟩|_=>⟨[],[],0⟩,fun p=>by
 cases p;simp only[zbz]⟩
@[go_sem] theorem zrF {p:zd2}:enc p= .agg [.sl (p.holes.map enc),.sl (p.pieces.map enc),.i .i64 p.top]:=rfl
@[go_sem] theorem zx6 {a b:List FD}{i n}:dec (α:=zd2) (.agg [.sl a,.sl b,.i i n])=⟨dec (.sl a),dec (.sl b),n⟩:=rfl
instance:Kc zd2 3:=⟨fun _=>rfl⟩
@[go_sem] theorem zvL {l:List zd2}:zbi (l.map enc) 3=True:=eq_true (zdg l)
@[go_sem] theorem ztZ {l:List zd2}:(zag (l.map enc)).all zcm=true:=by
 rw[List.all_eq_true]
 intro d hd
 simp only[zag,List.mem_flatMap,List.mem_map]at hd
 obtain⟨_,⟨a,_,rfl⟩,x,hx,rfl⟩:=hd
 simp only[zrF,FD.cells,List.mem_cons,List.not_mem_nil,or_false]at hx
 rcases hx with rfl|rfl|rfl<;>rfl
def zbV (s:zal)(l:List Nat):zd2:=⟨zaU s.pieces,zay l,zdT (nP s) l⟩
def inQ (p:zd2)(h:Str):Int:=p.pieces.getD (p.holes.idxOf h) 0
theorem zjx {s:zal}{l:List Nat}(h:okL s l){x:Str}(hx:x∈zaU s.pieces):inQ (zbV s l) x=(inP s l x:Nat):=by
 have h1:=List.idxOf_lt_length_of_mem hx
 unfold inQ inP zbV zay
 simp only
 rw[List.getD_eq_getElem?_getD,List.getD_eq_getElem?_getD,List.getElem?_map,List.getElem?_eq_getElem (by rw[h.e];exact h1)]
 rfl
def zra (s:zal)(l:List Nat)(i:Nat):Nat:=zdj ((zaO (za3 s l) (nP s+1) i).map fun j=>(zbE s j).size+1)
def zer (s:zal)(l:List Nat)(f:zab):Nat:=f.size+zdj ((zar f).map fun h=>zra s l (inP s l h))
theorem zoM {s:zal}{l:List Nat}(h:okL s l)(ht:zcO s l=true){i:Nat}(hi:i<nP s):zer s l (zbE s i)+1=zra s l i:=by
 unfold zer zra
 have hbe:zaO (za3 s l) (nP s+1) i=i::(za3 s l i).flatMap (zaO (za3 s l) (nP s+1)):=zi5 h.g h.p (zeY ht) hi
 rw[hbe,List.map_cons]
 have hf:=zhO (zaO (za3 s l) (nP s+1)) (fun j=>(zbE s j).size+1) (za3 s l i)
 have hk:((zar (zbE s i)).map fun x=>zdj ((zaO (za3 s l) (nP s+1) (inP s l x)).map fun j=>(zbE s j).size+1))=(za3 s l i).map fun c=>zdj ((zaO (za3 s l) (nP s+1) c).map fun j=>(zbE s j).size+1):=by
  unfold za3
  rw[List.map_map,←zce]
  rfl
 rw[←hk]at hf
 simp only[zdj,List.foldr_cons]at hf ⊢
 omega
end Go.Abs
namespace Go.Abs
open Go
structure onP (p:zd2)(s:zal):Prop where
 l:okL s (zaz p.pieces)
 e:p=zbV s (zaz p.pieces)
 c:zhx s
structure inT (p:zd2)(s:zal):Prop extends onP p s where
 t:zcO s (zaz p.pieces)=true
def zbN (p:zd2)(s:zal)(i:Int):List Int:=zay (zaO (za3 s (zaz p.pieces)) (nP s+1) i.toNat)
def zeh (p:zd2)(s:zal)(f:zab):zab:=zc8 (fun h=>zcH s (zaz p.pieces) (nP s+1) (inP s (zaz p.pieces) h)) f
structure zgd (p:zd2)(s:zal)(i:Int):Prop where
 g:inT p s
 i0:0≤i
 i1:i.toNat<nP s
structure zeg (p:zd2)(s:zal)(f:zab):Prop where
 g:inT p s
 h:∀h∈zar f,h∈zaU s.pieces
 z:f.size≤1000
def zpk (p:zd2)(s:zal)(i:Int):Nat:=(zaO (za3 s (zaz p.pieces)) (nP s+1) i.toNat).length
theorem zpl {p:zd2}{s:zal}{i:Int}(h:zgd p s i):zbN p s i=i::(zbZ s i.toNat).flatMap fun x=>zbN p s (inP s (zaz p.pieces) x:Nat):=by
 unfold zbN
 have he:zaO (za3 s (zaz p.pieces)) (nP s+1) i.toNat=i.toNat::(za3 s (zaz p.pieces) i.toNat).flatMap (zaO (za3 s (zaz p.pieces)) (nP s+1)):=zi5 h.g.l.g h.g.l.p (zeY h.g.t) h.i1
 rw[he]
 unfold zay za3
 rw[List.map_cons,Int.toNat_of_nonneg h.i0,List.map_flatMap,List.flatMap_map]
 simp only[Int.toNat_natCast]
theorem zr7 {s:zal}{l:List Nat}(h:okL s l){i:Nat}{x:Str}(hx:x∈zbZ s i):inP s l x<nP s:=zmd h (zdP hx)
theorem ztx {p:zd2}{s:zal}{i:Int}(h:zgd p s i){x:Str}(hx:x∈zbZ s i.toNat):zgd p s (inP s (zaz p.pieces) x:Nat)∧zpk p s (inP s (zaz p.pieces) x:Nat)<zpk p s i:=by
 refine⟨⟨h.g,by omega,by rw[Int.toNat_natCast];exact zr7 h.g.l hx⟩,?_⟩
 unfold zpk
 have he:zaO (za3 s (zaz p.pieces)) (nP s+1) i.toNat=i.toNat::(za3 s (zaz p.pieces) i.toNat).flatMap (zaO (za3 s (zaz p.pieces)) (nP s+1)):=zi5 h.g.l.g h.g.l.p (zeY h.g.t) h.i1
 rw[he,Int.toNat_natCast,List.length_cons]
 have hm:inP s (zaz p.pieces) x∈za3 s (zaz p.pieces) i.toNat:=List.mem_map_of_mem hx
 have key:∀(ks:List Nat) (g:Nat→List Nat) (c:Nat),c∈ks→(g c).length≤(ks.flatMap g).length:=by
  intro ks g c
  induction ks with
  |nil=>intro h;simp at h
  |cons a ks ih=>
   intro h
   rw[List.flatMap_cons,List.length_append]
   rcases List.mem_cons.1 h with rfl|h
   ·omega
   ·have:=ih h;omega
 have:=key _ (zaO (za3 s (zaz p.pieces)) (nP s+1)) _ hm
 omega
theorem zty {p:zd2}{s:zal}{i:Int}(h:zgd p s i):(zbN p s i).length≤6:=by
 unfold zbN zay
 rw[List.length_map]
 have hn:=zeN h.g.l.g (fun i hi=>ziA h.g.l hi) h.g.l.p (zeY h.g.t) (nP s+1) i.toNat h.i1
 have h1:=zb7 (b:=List.range (nP s)) hn fun x hx=>List.mem_range.2 (zi6 h.g.l _ _ h.i1 x hx)
 rw[List.length_range]at h1
 have:=h.g.c.n6
 omega
theorem zix {p:zd2}{s:zal}{f:zab}(h:zeg p s f)(hk:f.kind=10):zeh p s f=zeh p s (zbE s (inP s (zaz p.pieces) f.name))∧zeg p s (zbE s (inP s (zaz p.pieces) f.name))∧zer s (zaz p.pieces) (zbE s (inP s (zaz p.pieces) f.name))<zer s (zaz p.pieces) f:=by
 obtain⟨k,nm,ws,ss⟩:=f
 simp only[zaR]at hk
 subst hk
 have hnm:nm∈zaU s.pieces:=h.h nm (by rw[zar];simp)
 have hi:=zmd h.g.l hnm
 refine⟨?_,⟨h.g,fun x hx=>?_,?_⟩,?_⟩
 ·unfold zeh
  rw[zc8,if_pos rfl]
  exact zna h.g.l h.g.t hi
 ·rw[←zce]at hx;exact zdP hx
 ·show(zbE s (inP s (zaz p.pieces) nm)).size≤1000
  have hm:=h.g.c.nod
  have h2:=zkV s
  have h3:(zbE s (inP s (zaz p.pieces) nm)).size≤zdj ((List.range (nP s)).map fun i=>(zbE s i).size):=by
   have:=zjR (fun i=>(zbE s i).size) (a:=[inP s (zaz p.pieces) nm]) (b:=List.range (nP s)) (by simp) (fun x hx=>by rw[List.mem_singleton.1 hx];exact List.mem_range.2 hi)
   simpa[zdj]using this
  omega
 ·have hw:=zoM h.g.l h.g.t hi
  show zer s (zaz p.pieces) (zbE s (inP s (zaz p.pieces) nm))<zer s (zaz p.pieces) (.mk 10 nm ws ss)
  have e:zer s (zaz p.pieces) (.mk 10 nm ws ss)=(zab.mk 10 nm ws ss).size+zra s (zaz p.pieces) (inP s (zaz p.pieces) nm):=by
   unfold zer
   rw[zar,if_pos rfl]
   simp[zdj]
  rw[e]
  omega
theorem zhk {a:zab}:∀{l:List zab},a∈l→∀x∈zar a,x∈zaI l
 |[],h,x,_=>by simp at h
 |b::l,h,x,hx=>by
  rw[zaI]
  rcases List.mem_cons.1 h with rfl|h
  ·exact List.mem_append_left _ hx
  ·exact List.mem_append_right _ (zhk h x hx)
theorem znt {w:Str→Nat}{a:zab}:∀{l:List zab},a∈l→a.size+zdj ((zar a).map w)≤zab.sizes l+zdj ((zaI l).map w)
 |[],h=>by simp at h
 |b::l,h=>by
  rw[zaI,zab.sizes,List.map_append,zgQ]
  rcases List.mem_cons.1 h with rfl|h
  ·omega
  ·have:=znt (w:=w) h;omega
theorem zkA {p:zd2}{s:zal}{f a:zab}(h:zeg p s f)(hk:¬f.kind=10)(ha:a∈f.subs):zeg p s a∧zer s (zaz p.pieces) a<zer s (zaz p.pieces) f:=by
 obtain⟨k,nm,ws,ss⟩:=f
 simp only[zaR]at hk
 simp only[zby]at ha
 have hh:zar (.mk k nm ws ss)=zaI ss:=by rw[zar,if_neg hk]
 refine⟨⟨h.g,fun x hx=>h.h x (by rw[hh];exact zhk ha x hx),?_⟩,?_⟩
 ·have:=h.z
  have h2:=zab.size_sub (f:= .mk k nm ws ss) (show a∈(zab.mk k nm ws ss).subs from ha)
  omega
 ·unfold zer
  rw[hh]
  have h1:=znt (w:=fun h=>zra s (zaz p.pieces) (inP s (zaz p.pieces) h)) ha
  rw[zab.size]
  omega
theorem zmT {p:zd2}{s:zal}{f:zab}(hk:¬f.kind=10):zeh p s f= .mk f.kind f.name f.words (f.subs.map (zeh p s)):=by
 obtain⟨k,nm,ws,ss⟩:=f
 simp only[zaR]at hk
 unfold zeh
 rw[zc8,if_neg hk,zeX]
 rfl
end Go.Abs
