/- several texts of this proof in one; no conditions -/
import Derived.Test.YtkkffhphodngkaaDoorY11
set_option linter.unusedSimpArgs false
namespace Go.Abs
open Go
theorem zJX {a b:List zac}(h:∀w,(∃f∈a,w∈cst f [])↔∃f∈b,w∈cst f []):zbz a=zbz b:=
 zrR (ziM a) (ziM b) fun w=>by rw[zCI,zCI];exact h w
theorem zJ0 {a b:List zac}(h:∀p,(∃f∈a,p∈pds f)↔∃f∈b,p∈pds f):zgr a=zgr b:=
 zoa (zn7 a) (zn7 b) fun p=>by rw[zfB,zfB];exact h p
theorem zKm {α:Type}(p:α→Bool):∀l:List α,(l.filter p).length+(l.filter fun x=> !p x).length=l.length
 |[]=>rfl
 |x::l=>by
  have h:=zKm p l
  rw[List.filter_cons,List.filter_cons,List.length_cons]
  cases p x<;>simp<;>omega
theorem zJ3 {a b:List zac}(h1:zbz a=zbz b)(h2:zgr a=zgr b)(size:Nat):zgD a size=zgD b size:=by unfold zgD;rw[h1,h2]
theorem zJ2 {a b:List zac}(h1:zbz a=zbz b)(h2:zgr a=zgr b)(size n:Nat):znR a size n=znR b size n:=by unfold znR;rw[h1,h2]
theorem zKr {a b c:List zac}(h1:zbz a=zbz c)(h2:zgr a=zgr c)(h3:zbz b=zbz c)(h4:zgr b=zgr c)(hb:∀m,okF b m= !okF a m)(hc:∀m,okF c m=true)(size n:Nat):(zc6 a size n).length+(zc6 b size n).length=(zc6 c size n).length:=by
 unfold zc6
 rw[show znR a size=znR c size from funext (zJ2 h1 h2 size),show znR b size=znR c size from funext (zJ2 h3 h4 size),show okF b=fun m=> !okF a m from funext hb,show okF c=fun _=>true from funext hc]
 rw[zKm,List.filter_eq_self.2 (fun _ _=>rfl)]
theorem zKn {a b:List zac}(h1:zbz a=zbz b)(h2:zgr a=zgr b)(hb:∀m,okF a m=okF b m)(size:Nat):zbk a size=zbk b size:=by
 unfold zbk zc6
 rw[zJ3 h1 h2,show znR a size=znR b size from funext (zJ2 h1 h2 size),show okF a=okF b from funext hb]
end Go.Abs
namespace Go.Abs
open Go
theorem zrn {l:List zac}{a:List Str}(h:zxr a)(h2:∀w,(∃f∈l,w∈cst f [])↔w∈a):zbz l=a:=
 zrR (ziM l) h fun w=>by rw[zCI];exact h2 w
theorem znN {l:List zac}{k:Nat}{ms:List zal}{m:zal}(h:zbk l k=some ms)(hm:m∈ms):∃n i,zgD l k=some n∧m=znR l k i∧okF l m=true:=by
 unfold zbk at h
 cases hn:zgD l k with
 |none=>rw[hn]at h;cases h
 |some n=>
  rw[hn]at h
  obtain rfl:zc6 l k n=ms:=Option.some.inj h
  unfold zc6 at hm
  obtain⟨h1,h2⟩:=List.mem_filter.1 hm
  obtain⟨i,_,e⟩:=List.mem_map.1 h1
  exact⟨n,i,rfl,e.symm,h2⟩
theorem znz {l:List zac}{m:zal}{e:zcV}:∀{left k:Nat},zho l k left=(m,true,e)→∃j,k≤j∧j<k+left∧(∃ms,zbk l j=some (m::ms))∧(∀i,k≤i→i<j→zbk l i=some [])∧e=⟨0,0⟩
 |0,k,h=>by rw[zho]at h;simp at h
 |left+1,k,h=>by
  rw[zho]at h
  cases hm:zbk l k with
  |none=>rw[hm]at h;simp at h
  |some ms=>
   rw[hm]at h
   cases ms with
   |nil=>
    obtain⟨j,h1,h2,h3,h4,h5⟩:=znz (left:=left) (k:=k+1) h
    refine⟨j,by omega,by omega,h3,fun i hi hj=>?_,h5⟩
    rcases Nat.lt_or_ge k i with h6|h6
    ·exact h4 i h6 hj
    ·obtain rfl:i=k:=by omega
     exact hm
   |cons x ms=>
    simp only[Prod.mk.injEq]at h
    obtain⟨rfl,_,rfl⟩:=h
    exact⟨k,Nat.le_refl _,by omega,⟨ms,hm⟩,fun i h1 h2=>by omega,rfl⟩
theorem zvh {l:List zac}{size:Int}{m:zal}{e:zcV}(h:zih l size=(m,true,e)):∃j:Nat,(zaK l size).code=0∧1≤j∧(j:Int)≤size∧(∃ms,zbk l j=some (m::ms))∧(∀i,1≤i→i<j→zbk l i=some [])∧e=⟨0,0⟩:=by
 unfold zih at h
 split at h
 ·simp at h
 ·rename_i h0
  obtain⟨j,h1,h2,h3,h4,h5⟩:=znz h
  have:=(zej (Decidable.not_not.1 h0)).2.2.2.1
  exact⟨j,Decidable.not_not.1 h0,h1,by omega,h3,h4,h5⟩
theorem zhB {l:List zac}{k:Nat}{x:zal}{ms:List zal}(h:zbk l k=some ms)(hx:x∈ms):x.size=(k:Int):=by
 obtain⟨n,i,_,rfl,_⟩:=znN h hx
 rfl
def zwF:Str:=⟨[100,111,103]⟩
def zyV:Str:=⟨[107,105,109]⟩
def znt:zac:= .mk 2 zwF [zyV] []
theorem zkA:zbz [znt]=[zyV]:=by
 refine zrn (List.pairwise_singleton _ _) fun w=>?_
 have e:cst znt []=[zyV]:=by kernel_rfl
 constructor
 ·rintro⟨f,hf,h⟩
  rw[List.mem_singleton.1 hf,e]at h;exact h
 ·intro h;exact⟨znt,by simp,by rw[e];exact h⟩
theorem zqK:zgr [znt]=[⟨zwF,1⟩]:=by kernel_rfl
theorem zsP (k n:Nat):zc6 [znt] k n=((List.range n).map (zcC [zyV] [⟨zwF,1⟩] k)).filter (okF [znt]):=by
 unfold zc6 znR;rw[zkA,zqK]
theorem zu9 (k:Nat):zgD [znt] k=zg9 k 1 [⟨zwF,1⟩]:=by
 unfold zgD;rw[zkA,zqK];rfl
theorem zqI:zaK [znt] 1=⟨0,0⟩∧zaK [znt] 2=⟨0,0⟩:=⟨by kernel_rfl,by kernel_rfl⟩
theorem zqJ:∃m,zbk [znt] 1=some [m]∧m.size=1:=by
 refine⟨zcC [zyV] [⟨zwF,1⟩] 1 1,?_,rfl⟩
 unfold zbk
 rw[zu9,show zg9 1 1 [⟨zwF,1⟩]=some 2 by kernel_rfl]
 show some (zc6 [znt] 1 2)=_
 rw[zsP]
 kernel_rfl
theorem zsO:∃m,zih [znt] 1=(m,true,⟨0,0⟩)∧m.size=1:=by
 obtain⟨m,h,hs⟩:=zqJ
 refine⟨m,?_,hs⟩
 unfold zih
 rw[if_neg (by rw[zqI.1];simp)]
 show zho [znt] 1 1=_
 rw[zho,h]
theorem zKg:zeP [znt] 1=(1,⟨0,0⟩):=by
 obtain⟨m,h,_⟩:=zqJ
 unfold zeP
 rw[if_neg (by rw[zqI.1];simp)]
 show(match zbk [znt] 1 with|none=>(0,⟨17, -2⟩)|some l=>((l.length:Int),⟨0,0⟩):Int×zcV)=_
 rw[h];rfl
end Go.Abs
namespace Go.Abs
open Go
def zKc (k:Int)(f g:zac):zac:= .mk k ⟨[]⟩ [] [f,g]
theorem zJ6 (f:zac):cst (zy9 f) []=cst f []:=by
 unfold zy9
 rw[cst,zbW,zbW]
 simp[isQ]
theorem zKe {k:Int}(h:¬isQ k)(f g:zac):cst (zKc k f g) []=cst f []++cst g []:=by
 unfold zKc
 rw[cst,zbW,zbW,zbW,if_neg h]
 simp
theorem zJ8 (f:zac):pds (zy9 f)=pds f:=by
 unfold zy9
 rw[pds,zdp,zdp]
 simp
theorem zKf {k:Int}(h:k≠2)(f g:zac):pds (zKc k f g)=pds f++pds g:=by
 unfold zKc
 rw[pds,zdp,zdp,zdp]
 simp[h]
theorem zKa (m:zal)(f:zac):zbU m (zy9 f) []= !zbU m f []:=by
 unfold zy9
 rw[zbU,zbs,zbs]
 simp
theorem zJ5 (m:zal)(f g:zac):zbU m (zKc 5 f g) []=(zbU m f []&&zbU m g []):=by
 unfold zKc
 rw[zbU,zbs,zbs,zbs]
 simp
theorem zKv (m:zal)(f g:zac):zbU m (zKc 6 f g) []=(zbU m f []||zbU m g []):=by
 unfold zKc
 rw[zbU,zbs,zbs,zbs]
 simp
theorem zJ4 (m:zal)(f:zac):okF [f] m=zbU m f []:=by unfold okF;simp
theorem zJZ (m:zal)(f g:zac):okF [f,g] m=(zbU m f []&&zbU m g []):=by unfold okF;simp
theorem zKb (f:zac):zbz [zy9 f]=zbz [f]:=zJX fun w=>by simp[zJ6]
theorem zKp (f:zac):zgr [zy9 f]=zgr [f]:=zJ0 fun w=>by simp[zJ8]
theorem zJ7 (f:zac):zbz [zKc 6 f (zy9 f)]=zbz [f]:=zJX fun w=>by simp[zKe (show¬isQ 6 by decide),zJ6]
theorem zKq (f:zac):zgr [zKc 6 f (zy9 f)]=zgr [f]:=zJ0 fun w=>by simp[zKf (show(6:Int)≠2 by decide),zJ8]
theorem zJ1 (f g:zac):zbz [zKc 5 f g]=zbz [f,g]:=zJX fun w=>by simp[zKe (show¬isQ 5 by decide)]
theorem zJ9 (f g:zac):zgr [zKc 5 f g]=zgr [f,g]:=zJ0 fun w=>by simp[zKf (show(5:Int)≠2 by decide)]
theorem zJW (f g:zac):zbz [f,g]=zbz [g,f]:=zJX fun w=>by simp[or_comm]
theorem zJY (f g:zac):zgr [f,g]=zgr [g,f]:=zJ0 fun w=>by simp[or_comm]
theorem zJU {l:List zac}{size n:Int}{e:zcV}(h:zeP l size=(n,e))(he:e.code=0):(zaK l size).code=0∧e=⟨0,0⟩∧∃k ms,zgD l size.toNat=some k∧k≤8192∧zbk l size.toNat=some ms∧ms=zc6 l size.toNat k∧n=(ms.length:Int):=by
 unfold zeP at h
 split at h
 ·rename_i h1
  simp only[Prod.mk.injEq]at h
  rw[h.2]at h1
  exact absurd he h1
 ·rename_i h1
  have h1:=Decidable.not_not.1 h1
  split at h
  ·simp only[Prod.mk.injEq]at h
   rw[←h.2]at he
   exact absurd he (by decide)
  ·rename_i ms hm
   simp only[Prod.mk.injEq]at h
   refine⟨h1,h.2.symm,?_⟩
   have hs:=(zej h1).2.2.2
   cases hn:zgD l size.toNat with
   |none=>unfold zbk at hm;rw[hn]at hm;cases hm
   |some k=>
    have hk:=(zex (by omega) hn).2.1
    have hm2:=hm
    unfold zbk at hm2
    rw[hn]at hm2
    exact⟨k,ms,rfl,hk,hm,(Option.some.inj hm2).symm,h.1.symm⟩
theorem zKk {f:zac}{size a b c:Int}{e1 e2 e3:zcV}(h1:zeP [f] size=(a,e1))(h2:zeP [zy9 f] size=(b,e2))(h3:zeP [zKc 6 f (zy9 f)] size=(c,e3))(z1:e1.code=0)(z2:e2.code=0)(z3:e3.code=0):a+b=c∧0≤a∧a≤8192∧0≤b∧b≤8192:=by
 obtain⟨_,_,k1,m1,n1,l1,_,q1,rfl⟩:=zJU h1 z1
 obtain⟨_,_,k2,m2,n2,l2,_,q2,rfl⟩:=zJU h2 z2
 obtain⟨_,_,k3,m3,n3,l3,_,q3,rfl⟩:=zJU h3 z3
 rw[zJ3 (zKb f) (zKp f)]at n2
 rw[zJ3 (zJ7 f) (zKq f)]at n3
 obtain rfl:k1=k2:=Option.some.inj (n1.symm.trans n2)
 obtain rfl:k1=k3:=Option.some.inj (n1.symm.trans n3)
 have h:=zKr (a:=[f]) (b:=[zy9 f]) (c:=[zKc 6 f (zy9 f)]) (zJ7 f).symm (zKq f).symm ((zKb f).trans (zJ7 f).symm) ((zKp f).trans (zKq f).symm)
  (fun m=>by rw[zJ4,zJ4,zKa]) (fun m=>by rw[zJ4,zKv,zKa];cases zbU m f []<;>rfl) size.toNat k1
 have:=zlf [f] size.toNat k1
 have:=zlf [zy9 f] size.toNat k1
 subst q1 q2 q3
 omega
theorem zJV {a b:List zac}{size x y:Int}{e e':zcV}(n:zbz a=zbz b)(s:zgr a=zgr b)(o:∀m,okF a m=okF b m)(h1:zeP a size=(x,e))(h2:zeP b size=(y,e'))(z1:e.code=0)(z2:e'.code=0):x=y:=by
 obtain⟨_,_,k1,m1,n1,l1,p1,q1,rfl⟩:=zJU h1 z1
 obtain⟨_,_,k2,m2,n2,l2,p2,q2,rfl⟩:=zJU h2 z2
 rw[zKn n s o,p2]at p1
 rw[Option.some.inj p1]
theorem zKh:zeP [znt,zy9 znt] 1=(0,⟨0,0⟩):=by
 have hf:zaK [znt,zy9 znt] 1=⟨0,0⟩:=by kernel_rfl
 have hn:zbz [znt,zy9 znt]=[zyV]:=(zJX fun w=>by simp[zJ6]).trans zkA
 have hs:zgr [znt,zy9 znt]=[⟨zwF,1⟩]:=(zJ0 fun w=>by simp[zJ8]).trans zqK
 have hc:zgD [znt,zy9 znt] 1=some 2:=by unfold zgD;rw[hn,hs];kernel_rfl
 unfold zeP
 rw[if_neg (by rw[hf];simp)]
 show(match zbk [znt,zy9 znt] 1 with|none=>(0,⟨17, -2⟩)|some l=>((l.length:Int),⟨0,0⟩):Int×zcV)=_
 have h:zbk [znt,zy9 znt] 1=some []:=by
  unfold zbk
  rw[hc]
  show some (zc6 [znt,zy9 znt] 1 2)=_
  unfold zc6
  rw[List.filter_eq_nil_iff.2]
  intro m _
  rw[zJZ,zKa]
  cases zbU m znt []<;>simp
 rw[h];rfl
end Go.Abs
