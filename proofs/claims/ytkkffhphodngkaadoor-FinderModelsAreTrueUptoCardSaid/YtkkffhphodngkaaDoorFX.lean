import Derived.Test.YtkkffhphodngkaaDoorY11
set_option linter.unusedSimpArgs false
namespace Go.Abs
open Go
theorem zrn {l:List zac}{a:List Str}(h:zxr a)(h2:∀w,(∃f∈l,w∈cst f [])↔w∈a):zbz l=a:=
 zrR (ziM l) h fun w=>by rw[zCI];exact h2 w
theorem znN {l:List zac}{k:Nat}{ms:List zal}{m:zal}(h:zbk l k=some ms)(hm:m∈ms):∃n i,zgD l k=some n∧m=znR l k i∧okF l m=true:=by
 unfold zbk at h
 cases hn:zgD l k with
 |none=>rw[hn]at h;cases h
 |some n=>
  rw[hn]at h
  obtain rfl:zc6 l k n=ms:=Option.some.inj h
  unfold zc6 at hm
  obtain⟨h1,h2⟩:=List.mem_filter.1 hm
  obtain⟨i,_,e⟩:=List.mem_map.1 h1
  exact⟨n,i,rfl,e.symm,h2⟩
theorem znz {l:List zac}{m:zal}{e:zcV}:∀{left k:Nat},zho l k left=(m,true,e)→∃j,k≤j∧j<k+left∧(∃ms,zbk l j=some (m::ms))∧(∀i,k≤i→i<j→zbk l i=some [])∧e=⟨0,0⟩
 |0,k,h=>by rw[zho]at h;simp at h
 |left+1,k,h=>by
  rw[zho]at h
  cases hm:zbk l k with
  |none=>rw[hm]at h;simp at h
  |some ms=>
   rw[hm]at h
   cases ms with
   |nil=>
    obtain⟨j,h1,h2,h3,h4,h5⟩:=znz (left:=left) (k:=k+1) h
    refine⟨j,by omega,by omega,h3,fun i hi hj=>?_,h5⟩
    rcases Nat.lt_or_ge k i with h6|h6
    ·exact h4 i h6 hj
    ·obtain rfl:i=k:=by omega
     exact hm
   |cons x ms=>
    simp only[Prod.mk.injEq]at h
    obtain⟨rfl,_,rfl⟩:=h
    exact⟨k,Nat.le_refl _,by omega,⟨ms,hm⟩,fun i h1 h2=>by omega,rfl⟩
theorem zvh {l:List zac}{size:Int}{m:zal}{e:zcV}(h:zih l size=(m,true,e)):∃j:Nat,(zaK l size).code=0∧1≤j∧(j:Int)≤size∧(∃ms,zbk l j=some (m::ms))∧(∀i,1≤i→i<j→zbk l i=some [])∧e=⟨0,0⟩:=by
 unfold zih at h
 split at h
 ·simp at h
 ·rename_i h0
  obtain⟨j,h1,h2,h3,h4,h5⟩:=znz h
  have:=(zej (Decidable.not_not.1 h0)).2.2.2.1
  exact⟨j,Decidable.not_not.1 h0,h1,by omega,h3,h4,h5⟩
theorem zhB {l:List zac}{k:Nat}{x:zal}{ms:List zal}(h:zbk l k=some ms)(hx:x∈ms):x.size=(k:Int):=by
 obtain⟨n,i,_,rfl,_⟩:=znN h hx
 rfl
def zwF:Str:=⟨[100,111,103]⟩
def zyV:Str:=⟨[107,105,109]⟩
def znt:zac:= .mk 2 zwF [zyV] []
theorem zkA:zbz [znt]=[zyV]:=by
 refine zrn (List.pairwise_singleton _ _) fun w=>?_
 have e:cst znt []=[zyV]:=by kernel_rfl
 constructor
 ·rintro⟨f,hf,h⟩
  rw[List.mem_singleton.1 hf,e]at h;exact h
 ·intro h;exact⟨znt,by simp,by rw[e];exact h⟩
theorem zqK:zgr [znt]=[⟨zwF,1⟩]:=by kernel_rfl
theorem zsP (k n:Nat):zc6 [znt] k n=((List.range n).map (zcC [zyV] [⟨zwF,1⟩] k)).filter (okF [znt]):=by
 unfold zc6 znR;rw[zkA,zqK]
theorem zu9 (k:Nat):zgD [znt] k=zg9 k 1 [⟨zwF,1⟩]:=by
 unfold zgD;rw[zkA,zqK];rfl
theorem zqI:zaK [znt] 1=⟨0,0⟩∧zaK [znt] 2=⟨0,0⟩:=⟨by kernel_rfl,by kernel_rfl⟩
theorem zqJ:∃m,zbk [znt] 1=some [m]∧m.size=1:=by
 refine⟨zcC [zyV] [⟨zwF,1⟩] 1 1,?_,rfl⟩
 unfold zbk
 rw[zu9,show zg9 1 1 [⟨zwF,1⟩]=some 2 by kernel_rfl]
 show some (zc6 [znt] 1 2)=_
 rw[zsP]
 kernel_rfl
theorem zsO:∃m,zih [znt] 1=(m,true,⟨0,0⟩)∧m.size=1:=by
 obtain⟨m,h,hs⟩:=zqJ
 refine⟨m,?_,hs⟩
 unfold zih
 rw[if_neg (by rw[zqI.1];simp)]
 show zho [znt] 1 1=_
 rw[zho,h]
end Go.Abs
