import Derived.Test.YtkkffhphodngkabGreatDoorTR
set_option linter.unusedSimpArgs false
namespace Go.Abs
open Go
def zc5 (s:Nat):Nat→Nat→List Int
 |0,_=>[]
 |k+1,i=>zc5 s k (i / s)++[((i % s:Nat):Int)]
theorem zdK (s:Nat):∀k i,(zc5 s k i).length=k
 |0,_=>rfl
 |k+1,i=>by rw[zc5,List.length_append,zdK s k];rfl
def zDA (vars:List Str)(vals:List Int):List zaG:=List.zipWith zaG.mk vars vals
def zic (s i:Nat):Nat→Nat
 |0=>i
 |j+1=>zic s i j / s
def zw4 (s i:Nat):Nat→List Int
 |0=>[]
 |j+1=>((zic s i j % s:Nat):Int)::zw4 s i j
theorem zrr (s i:Nat):∀j,(zw4 s i j).length=j
 |0=>rfl
 |j+1=>by rw[zw4,List.length_cons,zrr s i j]
theorem zqI (s i:Nat):∀(j k:Nat),zc5 s (k+j) i=zc5 s k (zic s i j)++zw4 s i j
 |0,k=>by rw[zw4,List.append_nil];rfl
 |j+1,k=>by
  rw[show k+(j+1)=(k+1)+j by omega,zqI s i j (k+1),zc5,zic,zw4,List.append_assoc]
  rfl
theorem zBV (s i n:Nat):zw4 s i n=zc5 s n i:=by
 have:=zqI s i n 0
 rw[Nat.zero_add]at this
 rw[this,zc5,List.nil_append]
def zkM (s i n j:Nat):List Int:=List.replicate (n-j) 0++zw4 s i j
theorem zmp {s i n j:Nat}(h:j≤n):(zkM s i n j).length=n:=by unfold zkM;rw[List.length_append,List.length_replicate,zrr];omega
theorem zjN (s i n:Nat):zkM s i n 0=List.replicate n 0:=by unfold zkM;rw[zw4,List.append_nil,Nat.sub_zero]
theorem zit (s i n:Nat):zkM s i n n=zc5 s n i:=by unfold zkM;rw[Nat.sub_self,zBV];rfl
theorem zBN {k:Nat}{v:Int}{l:List Int}:(List.replicate (k+1) (0:Int)++l).set k v=List.replicate k 0++v::l:=by
 rw[List.replicate_succ',List.append_assoc,List.set_append_right _ _ (by simp)]
 simp
theorem zmq {s i n j:Nat}(h:j<n):(zkM s i n j).set (n-1-j) ((zic s i j % s:Nat):Int)=zkM s i n (j+1):=by
 unfold zkM
 rw[show n-j=(n-1-j)+1 by omega,zBN,zw4,show n-(j+1)=n-1-j by omega]
theorem zlf {s:Nat}(hs:0<s):∀(n i:Nat),∀v∈zc5 s n i,0≤v∧v<(s:Int)
 |0,_,v,h=>by simp[zc5]at h
 |n+1,i,v,h=>by
  rw[zc5,List.mem_append]at h
  rcases h with h|h
  ·exact zlf hs n _ v h
  ·have:v=((i % s:Nat):Int):=by simpa using h
   have:=Nat.mod_lt i hs
   omega
theorem zsn {vars:List Str}{l:List Int}(h:l.length=vars.length):(zDA vars l).map (·.name)=vars:=by
 unfold zDA
 rw[List.map_zipWith]
 refine List.ext_getElem (by rw[List.length_zipWith,h,Nat.min_self]) fun i h1 h2=>?_
 rw[List.getElem_zipWith]
theorem zuP {vars:List Str}{l:List Int}{x:zaG}(hx:x∈zDA vars l):x.value∈l:=by
 unfold zDA at hx
 obtain⟨i,hi,rfl⟩:=List.getElem_of_mem hx
 rw[List.getElem_zipWith]
 exact List.getElem_mem _
end Go.Abs
