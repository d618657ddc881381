import Derived.Test.YtmconmiemdinkaaGreatDoorFY
set_option linter.unusedSimpArgs false
namespace Go.Abs
open Go
theorem zJ8 {ts:List Nat}{ds:List Int}(hl:ts.length=ds.length){jj p:Nat}(h:zfA (ts.drop (p+1)) (ds.drop (p+1))=(List.replicate jj 0,true))(h1:p<ts.length)(h2:p<ds.length):
  (¬ds[p]+1<(ts[p]:Int)→zfA (ts.drop p) (ds.drop p)=(List.replicate (jj+1) 0,true))∧(ds[p]+1<(ts[p]:Int)→zfA ts ds=(ds.take p++(ds[p]+1)::List.replicate jj 0,false)):=by
 have e:zfA (ts.drop p) (ds.drop p)=if ds[p]+1<(ts[p]:Int)then((ds[p]+1)::List.replicate jj 0,false)else(0::List.replicate jj 0,true):=by
  rw[List.drop_eq_getElem_cons h1,List.drop_eq_getElem_cons h2,zfA,h]
  simp
 refine⟨fun h3=>by rw[e,if_neg h3];rfl,fun h3=>?_⟩
 rw[if_pos h3]at e
 have h4:=zpL (ts.take p) (ds.take p) (ts.drop p) (ds.drop p) (by rw[List.length_take,List.length_take,hl])
 rw[List.take_append_drop,List.take_append_drop,e]at h4
 simpa using h4
theorem ztt {ts:List Nat}{ds:List Int}(hl:ts.length=ds.length):zfA (ts.drop ts.length) (ds.drop ts.length)=(List.replicate 0 0,true):=by
 rw[List.drop_length,hl,List.drop_length];rfl
def zjJ (ds:List Int)(L jj:Nat):List Int:=ds.take (L-jj)++List.replicate jj 0
theorem zsP {ds:List Int}{L:Nat}(h:ds.length=L):zjJ ds L 0=ds:=by
 unfold zjJ;rw[Nat.sub_zero,List.replicate_zero,List.append_nil,List.take_of_length_le (by omega)]
theorem zvz {ds:List Int}{L jj:Nat}(h:ds.length=L)(hj:jj≤L):(zjJ ds L jj).length=L:=by
 unfold zjJ;rw[List.length_append,List.length_take,List.length_replicate];omega
theorem zvy {ds:List Int}{L jj p:Nat}(h:ds.length=L)(hp:p+jj+1=L)(h1:p<(zjJ ds L jj).length)(h2:p<ds.length):(zjJ ds L jj)[p]=ds[p]:=by
 have key:∀(l a b:List Int) (_:l=a++b) (k:Nat) (h1:k<l.length) (h2:k<a.length),l[k]=a[k]:=fun l a b e k h1 h2=>by subst e;exact List.getElem_append_left h2
 refine(key (zjJ ds L jj) (ds.take (L-jj)) (List.replicate jj 0) rfl p h1 (by rw[List.length_take];omega)).trans ?_
 rw[List.getElem_take]
theorem zsO {ds:List Int}{L jj p:Nat}(h:ds.length=L)(hp:p+jj+1=L)(v:Int):(zjJ ds L jj).set p v=ds.take p++v::List.replicate jj 0:=by
 unfold zjJ
 rw[show L-jj=p+1 by omega,List.take_succ_eq_append_getElem (by omega),List.append_assoc,List.set_append_right _ _ (by rw[List.length_take];omega),List.length_take,Nat.min_eq_left (by omega),Nat.sub_self]
 rfl
theorem zvA {ds:List Int}{L jj p:Nat}(h:ds.length=L)(hp:p+jj+1=L):(zjJ ds L jj).set p 0=zjJ ds L (jj+1):=by
 rw[zsO h hp]
 unfold zjJ
 rw[show L-(jj+1)=p by omega]
 rfl
end Go.Abs
