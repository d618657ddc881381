import Derived.Test.YtkkffhphodngkaaDoorFO
set_option linter.unusedSimpArgs false
namespace Go.Abs
open Go
def zhh (c:UInt8):Prop:=97≤(c.toNat:Int)∧(c.toNat:Int)≤122
def okc (c:UInt8):Prop:=zhh c∨(48≤(c.toNat:Int)∧(c.toNat:Int)≤57)∨(c.toNat:Int)=95∨(c.toNat:Int)=45
instance (c:UInt8):Decidable (zhh c):=inferInstanceAs (Decidable (_∧_))
instance (c:UInt8):Decidable (okc c):=inferInstanceAs (Decidable (_∨_))
def zax (s:Str):Bool:=decide (1≤s.l.length∧s.l.length≤30∧zhh (s.l.getD 0 0)∧∀j,j<s.l.length→okc (s.l.getD j 0))
theorem zkV {p:Nat→Prop}{i:Nat}(h:∀j,j<i→p j)(hi:p i):∀j,j<i+1→p j:=fun j hj=>by
 rcases Nat.lt_or_ge j i with h'|h'
 ·exact h j h'
 ·obtain rfl:j=i:=by omega
  exact hi
theorem zcv {s:Str}(h:¬(1≤s.l.length∧s.l.length≤30∧zhh (s.l.getD 0 0))):zax s=false:=by
 unfold zax
 exact decide_eq_false fun hh=>h ⟨hh.1,hh.2.1,hh.2.2.1⟩
theorem zoG {s:Str}{j:Nat}(hj:j<s.l.length)(h:¬okc (s.l.getD j 0)):zax s=false:=by
 unfold zax
 exact decide_eq_false fun hh=>h (hh.2.2.2 j hj)
theorem zil {s:Str}(h1:1≤s.l.length)(h2:s.l.length≤30)(h3:zhh (s.l.getD 0 0))(h4:∀j,j<s.l.length→okc (s.l.getD j 0)):zax s=true:=by
 unfold zax
 exact decide_eq_true ⟨h1,h2,h3,h4⟩
theorem zsf {s:Str}{j:Nat}(e:j=0)(h:¬zhh (s.l.getD j 0)):zax s=false:=by
 subst e;exact zcv fun hh=>h hh.2.2
theorem zuA {s:Str}{i:Nat}(hz:0<i→zhh (s.l.getD 0 0))(h:i=0→zhh (s.l.getD i 0)):0<i+1→zhh (s.l.getD 0 0):=fun _=>by
 rcases Nat.eq_zero_or_pos i with e|e
 ·have:=h e;rwa [e]at this
 ·exact hz e
structure za5 (n:Nat)(p:Nat→Prop) where
 i:Nat
 hi:i≤n
 hp:p i
structure zbG (n n0:Nat)(p:Nat→Prop) where
 i:Nat
 m:Nat
 hi:i≤n
 hm:n0≤m
 hp:p i
structure zen (n n0:Nat)(p:Nat→Prop) where
 i:Nat
 g:Nat
 m:Nat
 hi:i≤n
 hg:g<m
 hm:n0≤m
 hp:p i
def idx (l:List Str)(s:Str):Int:=if s∈l then(l.idxOf s:Int)else-1
theorem zow {s:Str}:∀{l:List Str} {i:Nat} (h:i<l.length),s∉l.take i→l[i]=s→l.idxOf s=i
 |[],i,h,_,_=>by simp at h
 |x::l,0,h,_,e=>by simp at e;simp[e]
 |x::l,i+1,h,h1,e=>by
  simp only[List.take_succ_cons,List.mem_cons,not_or]at h1
  have:=zow (s:=s) (l:=l) (i:=i) (by simpa using h) h1.2 (by simpa using e)
  rw[List.idxOf_cons]
  have hne:(x==s)=false:=by simpa using fun e=>h1.1 e.symm
  simp[hne,this]
theorem zjr {α:Type}{l:List α}{i:Nat}{s:α}(h:i<l.length)(h1:s∉l.take i)(h2:¬l[i]=s):s∉l.take (i+1):=by
 rw[List.take_succ_eq_append_getElem h,List.mem_append,List.mem_singleton]
 rintro(h'|h')
 ·exact h1 h'
 ·exact h2 h'.symm
theorem zl3 {α:Type}{l:List α}{i:Nat}{s:α}(h:¬i<l.length)(h1:s∉l.take i):s∉l:=by
 rwa [List.take_of_length_le (by omega)]at h1
theorem zha {α:Type}{a b:List α}{i:Nat}(h1:i<a.length)(h2:i<b.length)(h:a.take i=b.take i)(e:a[i]=b[i]):a.take (i+1)=b.take (i+1):=by
 rw[List.take_succ_eq_append_getElem h1,List.take_succ_eq_append_getElem h2,h,e]
theorem zo8 {α:Type}{a b:List α}{i:Nat}(h1:i<a.length)(h2:i<b.length)(h:¬a[i]=b[i]):¬a=b:=by
 rintro rfl;exact h rfl
theorem zg9 {α:Type}{a b:List α}{i:Nat}(hl:a.length=b.length)(h:¬i<a.length)(e:a.take i=b.take i):a=b:=by
 rw[List.take_of_length_le (by omega),List.take_of_length_le (by omega)]at e
 exact e
theorem zbM {α:Type}{O:List α}{f:α→Bool}{j:Nat}(h:j<O.length):(O.take (j+1)).any f=((O.take j).any f||f O[j]):=by
 rw[List.take_succ_eq_append_getElem h,List.any_append];simp
theorem zd9 {α:Type}{O:List α}{f:α→Bool}{j:Nat}(h:j<O.length):(O.take (j+1)).all f=((O.take j).all f&&f O[j]):=by
 rw[List.take_succ_eq_append_getElem h,List.all_append];simp
end Go.Abs
