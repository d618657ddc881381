import Derived.Test.YtkkffhphodngkaaGreatDoorY16
set_option linter.unusedSimpArgs false
namespace Go.Abs
open Go
def zD7 (l:List Str):Prop:=l.Pairwise fun a b=>a.l<b.l
theorem zwo {a b c:List UInt8}(h1:a<b)(h2:b<c):a<c:=List.lt_trans h1 h2
theorem zh9 {a:List UInt8}:¬a<a:=List.lt_irrefl a
theorem zCe {a b:List UInt8}(h1:¬a<b)(h2:a≠b):b<a:=by
 have h3:b≤a:=List.not_lt.1 h1
 rcases List.le_iff_lt_or_eq.1 h3 with h|h
 ·exact h
 ·exact absurd h.symm h2
theorem zD8 {a b:Str}(h:a≠b):a.l≠b.l:=fun e=>h (by cases a;cases b;exact congrArg Str.mk e)
theorem zvg (l:List (List UInt8)):(zg7 l).Pairwise (· ≤·):=by
 unfold zg7
 refine(List.pairwise_mergeSort (le:=fun x y=>decide (x≤y)) (fun a b c h1 h2=>?_) (fun a b=>?_) l).imp fun h=>of_decide_eq_true h
 ·exact decide_eq_true (List.le_trans (of_decide_eq_true h1) (of_decide_eq_true h2))
 ·rcases List.le_total a b with h|h<;>simp[h]
theorem ztC {l:List (List UInt8)}(h:l.Pairwise (· ≤·)):(zdC l).Pairwise (· <·):=by
 unfold zdC Lib.compact Lib.compactUpTo
 refine List.pairwise_map.2 ?_
 have hr:(List.range l.length).Pairwise (· <·):=List.pairwise_lt_range
 refine List.Pairwise.imp_of_mem ?_ (hr.filter (Lib.keeps l.toArray))
 intro i j hi hj hij
 have hi':=List.mem_range.1 (List.mem_filter.1 hi).1
 have hj':=List.mem_range.1 (List.mem_filter.1 hj).1
 have hk:=(List.mem_filter.1 hj).2
 have hget:∀j (h:j<l.length),(l.toArray)[j]! =l[j]:=fun j h=>by simp[h]
 unfold Lib.keeps at hk
 have hk:=of_decide_eq_true hk
 rw[hget i hi',hget j hj']
 rw[hget j hj',hget (j-1) (by omega)]at hk
 have hne:l[j]≠l[j-1]:=by
  rcases hk with h0|h0
  ·omega
  ·exact h0
 have hp:=List.pairwise_iff_getElem.1 h
 have h1:l[j-1]≤l[j]:=hp _ _ (by omega) hj' (by omega)
 have h2:l[j-1]<l[j]:=by
  rcases List.le_iff_lt_or_eq.1 h1 with h3|h3
  ·exact h3
  ·exact absurd h3.symm hne
 rcases Nat.lt_or_ge i (j-1)with h3|h3
 ·exact List.lt_of_le_of_lt (hp _ _ hi' (by omega) h3) h2
 ·obtain rfl:i=j-1:=by omega
  exact h2
theorem zx5 (l:List (List UInt8)):zD7 ((zdC (zg7 l)).map Str.mk):=List.pairwise_map.2 (ztC (zvg l))
theorem znR {l:List Str}(h:zD7 l):l.Nodup:=h.imp fun h e=>by rw[e]at h;exact zh9 h
end Go.Abs
