import Derived.Test.YtkkffhphodngkaaGreatDoorTR
set_option linter.unusedSimpArgs false
namespace Go.Abs
open Go
def zbO (s:Nat):Nat→Nat→List Int
 |0,_=>[]
 |k+1,i=>zbO s k (i / s)++[((i % s:Nat):Int)]
theorem zec (s:Nat):∀k i,(zbO s k i).length=k
 |0,_=>rfl
 |k+1,i=>by rw[zbO,List.length_append,zec s k];rfl
def zCy (vars:List Str)(vals:List Int):List zaH:=List.zipWith zaH.mk vars vals
def zhI (s i:Nat):Nat→Nat
 |0=>i
 |j+1=>zhI s i j / s
def zv3 (s i:Nat):Nat→List Int
 |0=>[]
 |j+1=>((zhI s i j % s:Nat):Int)::zv3 s i j
theorem zqL (s i:Nat):∀j,(zv3 s i j).length=j
 |0=>rfl
 |j+1=>by rw[zv3,List.length_cons,zqL s i j]
theorem zp2 (s i:Nat):∀(j k:Nat),zbO s (k+j) i=zbO s k (zhI s i j)++zv3 s i j
 |0,k=>by rw[zv3,List.append_nil];rfl
 |j+1,k=>by
  rw[show k+(j+1)=(k+1)+j by omega,zp2 s i j (k+1),zbO,zhI,zv3,List.append_assoc]
  rfl
theorem zAV (s i n:Nat):zv3 s i n=zbO s n i:=by
 have:=zp2 s i n 0
 rw[Nat.zero_add]at this
 rw[this,zbO,List.nil_append]
def zkg (s i n j:Nat):List Int:=List.replicate (n-j) 0++zv3 s i j
theorem zlM {s i n j:Nat}(h:j≤n):(zkg s i n j).length=n:=by unfold zkg;rw[List.length_append,List.length_replicate,zqL];omega
theorem zjd (s i n:Nat):zkg s i n 0=List.replicate n 0:=by unfold zkg;rw[zv3,List.append_nil,Nat.sub_zero]
theorem zhW (s i n:Nat):zkg s i n n=zbO s n i:=by unfold zkg;rw[Nat.sub_self,zAV];rfl
theorem zAK {k:Nat}{v:Int}{l:List Int}:(List.replicate (k+1) (0:Int)++l).set k v=List.replicate k 0++v::l:=by
 rw[List.replicate_succ',List.append_assoc,List.set_append_right _ _ (by simp)]
 simp
theorem zlN {s i n j:Nat}(h:j<n):(zkg s i n j).set (n-1-j) ((zhI s i j % s:Nat):Int)=zkg s i n (j+1):=by
 unfold zkg
 rw[show n-j=(n-1-j)+1 by omega,zAK,zv3,show n-(j+1)=n-1-j by omega]
theorem zp1 {s:Nat}(hs:0<s):∀(n i:Nat),∀v∈zbO s n i,0≤v∧v<(s:Int)
 |0,_,v,h=>by simp[zbO]at h
 |n+1,i,v,h=>by
  rw[zbO,List.mem_append]at h
  rcases h with h|h
  ·exact zp1 hs n _ v h
  ·have:v=((i % s:Nat):Int):=by simpa using h
   have:=Nat.mod_lt i hs
   omega
theorem zrF {vars:List Str}{l:List Int}(h:l.length=vars.length):(zCy vars l).map (·.name)=vars:=by
 unfold zCy
 rw[List.map_zipWith]
 refine List.ext_getElem (by rw[List.length_zipWith,h,Nat.min_self]) fun i h1 h2=>?_
 rw[List.getElem_zipWith]
theorem ztY {vars:List Str}{l:List Int}{x:zaH}(hx:x∈zCy vars l):x.value∈l:=by
 unfold zCy at hx
 obtain⟨i,hi,rfl⟩:=List.getElem_of_mem hx
 rw[List.getElem_zipWith]
 exact List.getElem_mem _
end Go.Abs
