import Derived.Test.YtdlioodgfopmfaaGreatDoorY9
set_option linter.unusedSimpArgs false
namespace Go.Abs
open Go
structure zhO where
 at':Int
 name:Str
def zEj (d:zhO):FD:= .agg [.i .i64 d.at',.s d.name.l]
def zEd:FD→zhO
 | .agg [.i _ a,.s n]=>⟨a,⟨n⟩⟩
 |_=>⟨0,⟨[]⟩⟩
instance:Enc zhO:=⟨zEj,zEd,fun d=>by cases d;rfl⟩
@[go_sem] theorem zCL {d:zhO}:enc d= .agg [.i .i64 d.at',.s d.name.l]:=rfl
def zdQ (made:List zhO)(n:Nat):List (List Str):=(List.range n).map fun i=>(made.filter fun d=>decide (d.at'=((i:Nat):Int))).map (·.name)
theorem zj4 {made:List zhO}{n i:Nat}(h:i<n):(zdQ made n).getD i []=(made.filter fun d=>decide (d.at'=((i:Nat):Int))).map (·.name):=by
 unfold zdQ
 rw[List.getD_eq_getElem?_getD,List.getElem?_map,List.getElem?_range h];rfl
theorem zrj {made:List zhO}{n i:Nat}{w:Str}(h:i<n):w∈(zdQ made n).getD i []↔∃d∈made,d.at'=(i:Int)∧d.name=w:=by
 rw[zj4 h]
 simp only[List.mem_map,List.mem_filter,decide_eq_true_eq]
 constructor
 ·rintro⟨d,⟨h1,h2⟩,h3⟩;exact⟨d,h1,h2,h3⟩
 ·rintro⟨d,h1,h2,h3⟩;exact⟨d,⟨h1,h2⟩,h3⟩
theorem zrk {n:Nat}:zdQ [] n=List.replicate n []:=by
 unfold zdQ
 apply List.ext_getElem (by simp)
 intro i h1 h2
 simp
def zs1 (made:List zhO)(n:Nat):Prop:=∀d∈made,0≤d.at'∧d.at'<n
theorem zs1.mono {made:List zhO}{n m:Nat}(h:zs1 made n)(hm:n≤m):zs1 made m:=fun d hd=>⟨(h d hd).1,by have:=(h d hd).2;omega⟩
theorem zs1.snoc {made:List zhO}{n:Nat}(h:zs1 made n){i:Nat}(hi:i<n)(w:Str):zs1 (made++[⟨i,w⟩]) n:=fun d hd=>by
 rcases List.mem_append.1 hd with h1|h1
 ·exact h d h1
 ·rw[List.mem_singleton.1 h1];exact⟨by simp,by simp only;omega⟩
theorem zj3 {made:List zhO}{n:Nat}(h:zs1 made n)(k:Nat):zdQ made (n+k)=zdQ made n++List.replicate k []:=by
 unfold zdQ
 apply List.ext_getElem (by simp)
 intro i h1 h2
 simp only[List.getElem_map,List.getElem_range]
 rcases Nat.lt_or_ge i n with h3|h3
 ·rw[List.getElem_append_left (by simpa using h3)]
  simp
 ·rw[List.getElem_append_right (by simpa using h3)]
  simp only[List.getElem_replicate,List.map_eq_nil_iff,List.filter_eq_nil_iff,decide_eq_true_eq]
  intro d hd e
  have:=(h d hd).2
  omega
theorem zox {made:List zhO}{n i:Nat}{w:Str}(hi:i<n):zdQ (made++[⟨i,w⟩]) n=(zdQ made n).set i ((zdQ made n).getD i []++[w]):=by
 rw[zj4 hi]
 unfold zdQ
 apply List.ext_getElem (by simp)
 intro j h1 h2
 rw[List.getElem_set]
 simp only[List.getElem_map,List.getElem_range,List.filter_append,List.map_append]
 by_cases e:i=j
 ·subst e
  simp
 ·rw[if_neg e]
  have:¬((i:Int)=(j:Int)):=by omega
  simp[this]
def brD (l:List zac)(used:List Bool)(made:List zhO)(rounds:Int):Brn:=⟨l,used,zdQ made l.length,rounds⟩
theorem znP {l fs:List zac}{used:List Bool}{made:List zhO}{r:Int}{i:Nat}(h:zs1 made l.length):zbS (zb6 (brD l used made r) i) fs=brD (l++fs) (used.set i true++List.replicate fs.length false) made r:=by
 unfold zbS zb6 brD
 simp only[List.length_append,zj3 h]
theorem zsb {l:List zac}{used:List Bool}{made:List zhO}{r:Int}{i:Nat}{w:Str}{I:zac}(h:zs1 made l.length)(hi:i<l.length):zbS (saw (brD l used made r) i w) [I]=brD (l++[I]) (used++[false]) (made++[⟨i,w⟩]) r:=by
 unfold zbS saw brD
 simp only[List.length_append,List.length_singleton]
 rw[zj3 (h.snoc hi w),zox hi]
 rfl
def zcE (r:Res):Int:=if r.ok=true then 1 else if r.lim=true then 2 else 0
theorem zlX {r:Res}:zcE r=1↔r.ok=true:=by
 unfold zcE
 cases r.ok<;>cases r.lim<;>simp
def zoy (c:List zaR)(l:List zac)(f:zac):Bool:=zhG c f||(decide (f.kind=4)&&decide ((zbo f).kind=2)&&l.any fun h=>zci c h (zbo f))
def zrn (l:List zac):Bool:=l.any (zoy (zeM l) l)
theorem zjM (p:zac→Bool):∀(l:List zac) (k:Nat),(zeI p l k).isSome=l.any p
 |[],k=>rfl
 |x::l,k=>by
  rw[zeI,List.any_cons]
  cases hp:p x with
  |true=>simp
  |false=>simp[zjM p l (k+1)]
theorem zlV (c:List zaR)(l:List zac)(f:zac)(i:Nat):(zb1 c l f i).isSome=zoy c l f:=by
 unfold zb1 zoy
 cases hc:zhG c f with
 |true=>simp
 |false=>
  by_cases h:f.kind=4∧(zbo f).kind=2
  ·have e:=zjM (fun h=>zci c h (zbo f)) l 0
   simp only[Bool.false_eq_true,if_false,h,and_self,if_true,Option.isSome_map,e,Bool.false_or,decide_true,Bool.true_and]
  ·simp only[Bool.false_eq_true,if_false,h,Option.isSome_none,Bool.false_or]
   rcases Classical.not_and_iff_not_or_not.1 h with h|h<;>simp[h]
theorem zho (c:List zaR)(l:List zac):∀(fs:List zac) (i:Nat),(zc5 c l fs i).isSome=fs.any (zoy c l)
 |[],i=>rfl
 |f::fs,i=>by
  rw[zc5,List.any_cons,←zlV c l f i]
  cases zb1 c l f i with
  |some p=>rfl
  |none=>simp[zho c l fs (i+1)]
theorem znW (l:List zac):(zcD l).isSome=zrn l:=zho (zeM l) l l 0
end Go.Abs
