/- several texts of this proof in one; no conditions -/
import Derived.Test.YtmconmiemdinkaaGreatDoorY15
import Derived.Test.YtmconmiemdinkaaGreatDoorY16
set_option linter.unusedSimpArgs false
namespace Go.Abs
open Go
def zc9 (s:Nat):Nat→Nat→List Int
 |0,_=>[]
 |k+1,i=>zc9 s k (i / s)++[((i % s:Nat):Int)]
theorem zgb (s:Nat):∀k i,(zc9 s k i).length=k
 |0,_=>rfl
 |k+1,i=>by rw[zc9,List.length_append,zgb s k];rfl
theorem zkR {s:Nat}(hs:0<s):∀(n i:Nat),∀v∈zc9 s n i,0≤v∧v<(s:Int)
 |0,_,v,h=>by simp[zc9]at h
 |n+1,i,v,h=>by
  rw[zc9,List.mem_append]at h
  rcases h with h|h
  ·exact zkR hs n _ v h
  ·have:v=((i % s:Nat):Int):=by simpa using h
   have:=Nat.mod_lt i hs
   omega
end Go.Abs
namespace Go.Abs
open Go
theorem zjR {s:Nat}(hs:0<s):∀(k:Nat) (ds:List Nat),ds.length=k→(∀d∈ds,d<s)→∃i,i<s^k∧zc9 s k i=ds.map fun d:Nat=>(d:Int)
 |0,ds,hl,_=>⟨0,by simp,by rw[List.eq_nil_of_length_eq_zero hl];rfl⟩
 |k+1,ds,hl,h=>by
  have hc:ds=[]∨∃a x,ds=a++[x]:=by
   rcases List.eq_nil_or_concat ds with h|⟨a,x,h⟩
   ·exact .inl h
   ·exact .inr ⟨a,x,by simpa using h⟩
  rcases hc with rfl|⟨a,x,rfl⟩
  ·simp at hl
  ·obtain⟨i,hi,he⟩:=zjR hs k a (by simpa using hl) fun d hd=>h d (by simp[hd])
   have hx:=h x (by simp)
   have h1:(s*i+x) / s=i:=by rw[Nat.mul_add_div hs,Nat.div_eq_of_lt hx,Nat.add_zero]
   have h2:(s*i+x) % s=x:=by rw[Nat.mul_add_mod,Nat.mod_eq_of_lt hx]
   refine⟨s*i+x,?_,?_⟩
   ·rw[Nat.pow_succ,Nat.mul_comm (s^k) s]
    have:s*(i+1)≤s*s^k:=Nat.mul_le_mul_left _ hi
    rw[Nat.mul_add]at this
    omega
   ·rw[zc9,h1,h2,he,List.map_append];rfl
def zaD (l:List Int):List Nat:=l.map Int.toNat
def zaF (l:List Nat):List Int:=l.map fun n:Nat=>(n:Int)
theorem zc3 (l:List Nat):zaD (zaF l)=l:=by
 unfold zaD zaF
 rw[List.map_map]
 conv=>rhs;rw[←List.map_id l]
 exact List.map_congr_left fun n _=>Int.toNat_natCast n
theorem zmS {l:List Int}(h:∀x∈l,0≤x):zaF (zaD l)=l:=by
 unfold zaD zaF
 rw[List.map_map]
 conv=>rhs;rw[←List.map_id l]
 exact List.map_congr_left fun n hn=>Int.toNat_of_nonneg (h n hn)
def okD (s:zar)(l:List Nat):Bool:=decide l.Nodup&&okS s l
def zd8 (s:zar)(k:Nat):List (List Int):=((List.range k).map (zc9 (nP s) (za5 s.pieces).length)).filter fun d=>okD s (zaD d)
def zd7 (s:zar):List (List Int):=if(za5 s.pieces).length+1≠nP s then[]else zd8 s (nP s^(za5 s.pieces).length)
theorem zox (s:zar)(k:Nat):zd8 s (k+1)=zd8 s k++(if okD s (zaD (zc9 (nP s) (za5 s.pieces).length k))=true then[zc9 (nP s) (za5 s.pieces).length k]else[]):=by
 unfold zd8
 rw[List.range_succ,List.map_append,List.filter_append]
 congr 1
 simp only[List.map_cons,List.map_nil,List.filter_cons,List.filter_nil]
theorem ziL {s:zar}(h:ze3 s){d:List Int}:d∈zd7 s↔∃l,l∈zdy s∧d=zaF l:=by
 have hn:0<nP s:=h.n1
 constructor
 ·intro hd
  unfold zd7 at hd
  split at hd
  ·simp at hd
  rename_i hl
  unfold zd8 at hd
  obtain⟨h1,h2⟩:=List.mem_filter.1 hd
  obtain⟨k,_,rfl⟩:=List.mem_map.1 h1
  unfold okD at h2
  rw[Bool.and_eq_true,decide_eq_true_eq]at h2
  have hr:=zkR hn (za5 s.pieces).length k
  refine⟨zaD (zc9 (nP s) (za5 s.pieces).length k),ziM.2 ⟨Decidable.not_not.1 hl,?_,h2.1,fun i hi=>?_,h2.2⟩,(zmS fun x hx=>(hr x hx).1).symm⟩
  ·unfold zaD;rw[List.length_map,zgb]
  ·obtain⟨x,hx,rfl⟩:=List.mem_map.1 hi
   have:=hr x hx
   omega
 ·rintro⟨l,hl,rfl⟩
  obtain⟨h1,h2,h3,h4,h5⟩:=ziM.1 hl
  unfold zd7
  rw[if_neg (by simp[h1])]
  obtain⟨k,hk,e⟩:=zjR hn (za5 s.pieces).length l h2 h4
  refine List.mem_filter.2 ⟨List.mem_map.2 ⟨k,List.mem_range.2 hk,e⟩,?_⟩
  unfold okD
  rw[show zaD (zaF l)=l from zc3 l,h5,decide_eq_true h3];rfl
end Go.Abs
namespace Go.Abs
open Go
structure zeE where
 holes:List Str
 pieces:List Int
 top:Int
@[go_sem] theorem zaO {p:zeE}:zeE.mk p.holes p.pieces p.top=p:=by cases p;rfl
instance:Inhabited zeE:=⟨⟨[],[],0⟩⟩
instance:Enc zeE:=⟨fun p=> .agg [.sl (p.holes.map enc),.sl (p.pieces.map enc),.i .i64 p.top],fun x=>match x with| .agg [.sl a,.sl b,.i _ n]=>⟨a.map dec,b.map dec,n⟩|_=>⟨[],[],0⟩,fun p=>by
 cases p;simp only[zbW]⟩
@[go_sem] theorem zvI {p:zeE}:enc p= .agg [.sl (p.holes.map enc),.sl (p.pieces.map enc),.i .i64 p.top]:=rfl
@[go_sem] theorem zDu {a b:List FD}{i n}:dec (α:=zeE) (.agg [.sl a,.sl b,.i i n])=⟨dec (.sl a),dec (.sl b),n⟩:=rfl
instance:Kc zeE 3:=⟨fun _=>rfl⟩
@[go_sem] theorem zAR {l:List zeE}:zbC (l.map enc) 3=True:=eq_true (zdS l)
@[go_sem] theorem zyK {l:List zeE}:(zaf (l.map enc)).all zcp=true:=by
 rw[List.all_eq_true]
 intro d hd
 simp only[zaf,List.mem_flatMap,List.mem_map]at hd
 obtain⟨_,⟨a,_,rfl⟩,x,hx,rfl⟩:=hd
 simp only[zvI,FD.cells,List.mem_cons,List.not_mem_nil,or_false]at hx
 rcases hx with rfl|rfl|rfl<;>rfl
def zbY (s:zar)(l:List Nat):zeE:=⟨za5 s.pieces,zaF l,zdE (nP s) l⟩
def inQ (p:zeE)(h:Str):Int:=p.pieces.getD (p.holes.idxOf h) 0
theorem zlb {s:zar}{l:List Nat}(h:okL s l){x:Str}(hx:x∈za5 s.pieces):inQ (zbY s l) x=(inP s l x:Nat):=by
 have h1:=List.idxOf_lt_length_of_mem hx
 unfold inQ inP zbY zaF
 simp only
 rw[List.getD_eq_getElem?_getD,List.getD_eq_getElem?_getD,List.getElem?_map,List.getElem?_eq_getElem (by rw[h.e];exact h1)]
 rfl
def zuY (s:zar)(l:List Nat)(i:Nat):Nat:=zdW ((za2 (zbr s l) (nP s+1) i).map fun j=>(zbH s j).size+1)
def zfd (s:zar)(l:List Nat)(f:zac):Nat:=f.size+zdW ((zau f).map fun h=>zuY s l (inP s l h))
theorem zrW {s:zar}{l:List Nat}(h:okL s l)(ht:zcx s l=true){i:Nat}(hi:i<nP s):zfd s l (zbH s i)+1=zuY s l i:=by
 unfold zfd zuY
 have hbe:za2 (zbr s l) (nP s+1) i=i::(zbr s l i).flatMap (za2 (zbr s l) (nP s+1)):=zkJ h.g h.p (zfb ht) hi
 rw[hbe,List.map_cons]
 have hf:=zjc (za2 (zbr s l) (nP s+1)) (fun j=>(zbH s j).size+1) (zbr s l i)
 have hk:((zau (zbH s i)).map fun x=>zdW ((za2 (zbr s l) (nP s+1) (inP s l x)).map fun j=>(zbH s j).size+1))=(zbr s l i).map fun c=>zdW ((za2 (zbr s l) (nP s+1) c).map fun j=>(zbH s j).size+1):=by
  unfold zbr
  rw[List.map_map,←zbV]
  rfl
 rw[←hk]at hf
 simp only[zdW,List.foldr_cons]at hf ⊢
 omega
end Go.Abs
namespace Go.Abs
open Go
structure onP (p:zeE)(s:zar):Prop where
 l:okL s (zaD p.pieces)
 e:p=zbY s (zaD p.pieces)
 c:ze3 s
structure inT (p:zeE)(s:zar):Prop extends onP p s where
 t:zcx s (zaD p.pieces)=true
def zdI (p:zeE)(s:zar)(i:Int):List Int:=zaF (za2 (zbr s (zaD p.pieces)) (nP s+1) i.toNat)
def zeZ (p:zeE)(s:zar)(f:zac):zac:=zcw (fun h=>zcv s (zaD p.pieces) (nP s+1) (inP s (zaD p.pieces) h)) f
structure zie (p:zeE)(s:zar)(i:Int):Prop where
 g:inT p s
 i0:0≤i
 i1:i.toNat<nP s
structure zeA (p:zeE)(s:zar)(f:zac):Prop where
 g:inT p s
 h:∀h∈zau f,h∈za5 s.pieces
 z:f.size≤1000
def zsC (p:zeE)(s:zar)(i:Int):Nat:=(za2 (zbr s (zaD p.pieces)) (nP s+1) i.toNat).length
theorem zsD {p:zeE}{s:zar}{i:Int}(h:zie p s i):zdI p s i=i::(zcn s i.toNat).flatMap fun x=>zdI p s (inP s (zaD p.pieces) x:Nat):=by
 unfold zdI
 have he:za2 (zbr s (zaD p.pieces)) (nP s+1) i.toNat=i.toNat::(zbr s (zaD p.pieces) i.toNat).flatMap (za2 (zbr s (zaD p.pieces)) (nP s+1)):=zkJ h.g.l.g h.g.l.p (zfb h.g.t) h.i1
 rw[he]
 unfold zaF zbr
 rw[List.map_cons,Int.toNat_of_nonneg h.i0,List.map_flatMap,List.flatMap_map]
 simp only[Int.toNat_natCast]
theorem zwe {s:zar}{l:List Nat}(h:okL s l){i:Nat}{x:Str}(hx:x∈zcn s i):inP s l x<nP s:=zoG h (zdK hx)
theorem zyd {p:zeE}{s:zar}{i:Int}(h:zie p s i){x:Str}(hx:x∈zcn s i.toNat):zie p s (inP s (zaD p.pieces) x:Nat)∧zsC p s (inP s (zaD p.pieces) x:Nat)<zsC p s i:=by
 refine⟨⟨h.g,by omega,by rw[Int.toNat_natCast];exact zwe h.g.l hx⟩,?_⟩
 unfold zsC
 have he:za2 (zbr s (zaD p.pieces)) (nP s+1) i.toNat=i.toNat::(zbr s (zaD p.pieces) i.toNat).flatMap (za2 (zbr s (zaD p.pieces)) (nP s+1)):=zkJ h.g.l.g h.g.l.p (zfb h.g.t) h.i1
 rw[he,Int.toNat_natCast,List.length_cons]
 have hm:inP s (zaD p.pieces) x∈zbr s (zaD p.pieces) i.toNat:=List.mem_map_of_mem hx
 have key:∀(ks:List Nat) (g:Nat→List Nat) (c:Nat),c∈ks→(g c).length≤(ks.flatMap g).length:=by
  intro ks g c
  induction ks with
  |nil=>intro h;simp at h
  |cons a ks ih=>
   intro h
   rw[List.flatMap_cons,List.length_append]
   rcases List.mem_cons.1 h with rfl|h
   ·omega
   ·have:=ih h;omega
 have:=key _ (za2 (zbr s (zaD p.pieces)) (nP s+1)) _ hm
 omega
theorem zye {p:zeE}{s:zar}{i:Int}(h:zie p s i):(zdI p s i).length≤6:=by
 unfold zdI zaF
 rw[List.length_map]
 have hn:=zfF h.g.l.g (fun i hi=>zj2 h.g.l hi) h.g.l.p (zfb h.g.t) (nP s+1) i.toNat h.i1
 have h1:=zct (b:=List.range (nP s)) hn fun x hx=>List.mem_range.2 (zkK h.g.l _ _ h.i1 x hx)
 rw[List.length_range]at h1
 have:=h.g.c.n6
 omega
theorem zj0 {p:zeE}{s:zar}{f:zac}(h:zeA p s f)(hk:f.kind=10):zeZ p s f=zeZ p s (zbH s (inP s (zaD p.pieces) f.name))∧zeA p s (zbH s (inP s (zaD p.pieces) f.name))∧zfd s (zaD p.pieces) (zbH s (inP s (zaD p.pieces) f.name))<zfd s (zaD p.pieces) f:=by
 obtain⟨k,nm,ws,ss⟩:=f
 simp only[zaG]at hk
 subst hk
 have hnm:nm∈za5 s.pieces:=h.h nm (by rw[zau];simp)
 have hi:=zoG h.g.l hnm
 refine⟨?_,⟨h.g,fun x hx=>?_,?_⟩,?_⟩
 ·unfold zeZ
  rw[zcw,if_pos rfl]
  exact zpY h.g.l h.g.t hi
 ·rw[←zbV]at hx;exact zdK hx
 ·show(zbH s (inP s (zaD p.pieces) nm)).size≤1000
  have hm:=h.g.c.nod
  have h2:=zna s
  have h3:(zbH s (inP s (zaD p.pieces) nm)).size≤zdW ((List.range (nP s)).map fun i=>(zbH s i).size):=by
   have:=zlJ (fun i=>(zbH s i).size) (a:=[inP s (zaD p.pieces) nm]) (b:=List.range (nP s)) (by simp) (fun x hx=>by rw[List.mem_singleton.1 hx];exact List.mem_range.2 hi)
   simpa[zdW]using this
  omega
 ·have hw:=zrW h.g.l h.g.t hi
  show zfd s (zaD p.pieces) (zbH s (inP s (zaD p.pieces) nm))<zfd s (zaD p.pieces) (.mk 10 nm ws ss)
  have e:zfd s (zaD p.pieces) (.mk 10 nm ws ss)=(zac.mk 10 nm ws ss).size+zuY s (zaD p.pieces) (inP s (zaD p.pieces) nm):=by
   unfold zfd
   rw[zau,if_pos rfl]
   simp[zdW]
  rw[e]
  omega
theorem ziD {a:zac}:∀{l:List zac},a∈l→∀x∈zau a,x∈zaP l
 |[],h,x,_=>by simp at h
 |b::l,h,x,hx=>by
  rw[zaP]
  rcases List.mem_cons.1 h with rfl|h
  ·exact List.mem_append_left _ hx
  ·exact List.mem_append_right _ (ziD h x hx)
theorem zqr {w:Str→Nat}{a:zac}:∀{l:List zac},a∈l→a.size+zdW ((zau a).map w)≤zac.sizes l+zdW ((zaP l).map w)
 |[],h=>by simp at h
 |b::l,h=>by
  rw[zaP,zac.sizes,List.map_append,zh1]
  rcases List.mem_cons.1 h with rfl|h
  ·omega
  ·have:=zqr (w:=w) h;omega
theorem zmH {p:zeE}{s:zar}{f a:zac}(h:zeA p s f)(hk:¬f.kind=10)(ha:a∈f.subs):zeA p s a∧zfd s (zaD p.pieces) a<zfd s (zaD p.pieces) f:=by
 obtain⟨k,nm,ws,ss⟩:=f
 simp only[zaG]at hk
 simp only[zaU]at ha
 have hh:zau (.mk k nm ws ss)=zaP ss:=by rw[zau,if_neg hk]
 refine⟨⟨h.g,fun x hx=>h.h x (by rw[hh];exact ziD ha x hx),?_⟩,?_⟩
 ·have:=h.z
  have h2:=zac.size_sub (f:= .mk k nm ws ss) (show a∈(zac.mk k nm ws ss).subs from ha)
  omega
 ·unfold zfd
  rw[hh]
  have h1:=zqr (w:=fun h=>zuY s (zaD p.pieces) (inP s (zaD p.pieces) h)) ha
  rw[zac.size]
  omega
theorem zpF {p:zeE}{s:zar}{f:zac}(hk:¬f.kind=10):zeZ p s f= .mk f.kind f.name f.words (f.subs.map (zeZ p s)):=by
 obtain⟨k,nm,ws,ss⟩:=f
 simp only[zaG]at hk
 unfold zeZ
 rw[zcw,if_neg hk,zet]
 rfl
end Go.Abs
