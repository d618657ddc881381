import Derived.Test.YtkkffhphodngkabGreatDoorY16
set_option linter.unusedSimpArgs false
namespace Go.Abs
open Go
def zC0 (l:List Str):Prop:=l.Pairwise fun a b=>a.l<b.l
theorem zql {a b c:List UInt8}(h1:a<b)(h2:b<c):a<c:=List.lt_trans h1 h2
theorem zfe {a:List UInt8}:¬a<a:=List.lt_irrefl a
theorem zDg {a b:List UInt8}(h1:¬a<b)(h2:a≠b):b<a:=by
 have h3:b≤a:=List.not_lt.1 h1
 rcases List.le_iff_lt_or_eq.1 h3 with h|h
 ·exact h
 ·exact absurd h.symm h2
theorem zFw {a b:Str}(h:a≠b):a.l≠b.l:=fun e=>h (by cases a;cases b;exact congrArg Str.mk e)
theorem zwf:∀{a b:List Str},zC0 a→zC0 b→(∀x,x∈a↔x∈b)→a=b
 |[],[],_,_,_=>rfl
 |[],y::b,_,_,h=>absurd ((h y).2 (by simp)) (by simp)
 |x::a,[],_,_,h=>absurd ((h x).1 (by simp)) (by simp)
 |x::a,y::b,ha,hb,h=>by
  have ha':=List.pairwise_cons.1 ha
  have hb':=List.pairwise_cons.1 hb
  have e:x=y:=by
   refine Classical.byContradiction fun hne=>?_
   have h1:x∈b:=by
    rcases List.mem_cons.1 ((h x).1 (by simp))with h1|h1
    ·exact absurd h1 hne
    ·exact h1
   have h2:y∈a:=by
    rcases List.mem_cons.1 ((h y).2 (by simp))with h2|h2
    ·exact absurd h2.symm hne
    ·exact h2
   exact zfe (zql (ha'.1 y h2) (hb'.1 x h1))
  subst e
  rw[zwf ha'.2 hb'.2 fun z=>?_]
  have hz:=h z
  simp only[List.mem_cons]at hz
  constructor
  ·intro hza
   rcases hz.1 (.inr hza)with e|h1
   ·rw[e]at hza;exact absurd (ha'.1 x hza) zfe
   ·exact h1
  ·intro hzb
   rcases hz.2 (.inr hzb)with e|h1
   ·rw[e]at hzb;exact absurd (hb'.1 x hzb) zfe
   ·exact h1
theorem zv9 (l:List (List UInt8)):(zhC l).Pairwise (· ≤·):=by
 unfold zhC
 refine(List.pairwise_mergeSort (le:=fun x y=>decide (x≤y)) (fun a b c h1 h2=>?_) (fun a b=>?_) l).imp fun h=>of_decide_eq_true h
 ·exact decide_eq_true (List.le_trans (of_decide_eq_true h1) (of_decide_eq_true h2))
 ·rcases List.le_total a b with h|h<;>simp[h]
theorem zuu {l:List (List UInt8)}(h:l.Pairwise (· ≤·)):(zdH l).Pairwise (· <·):=by
 unfold zdH Lib.compact Lib.compactUpTo
 refine List.pairwise_map.2 ?_
 have hr:(List.range l.length).Pairwise (· <·):=List.pairwise_lt_range
 refine List.Pairwise.imp_of_mem ?_ (hr.filter (Lib.keeps l.toArray))
 intro i j hi hj hij
 have hi':=List.mem_range.1 (List.mem_filter.1 hi).1
 have hj':=List.mem_range.1 (List.mem_filter.1 hj).1
 have hk:=(List.mem_filter.1 hj).2
 have hget:∀j (h:j<l.length),(l.toArray)[j]! =l[j]:=fun j h=>by simp[h]
 unfold Lib.keeps at hk
 have hk:=of_decide_eq_true hk
 rw[hget i hi',hget j hj']
 rw[hget j hj',hget (j-1) (by omega)]at hk
 have hne:l[j]≠l[j-1]:=by
  rcases hk with h0|h0
  ·omega
  ·exact h0
 have hp:=List.pairwise_iff_getElem.1 h
 have h1:l[j-1]≤l[j]:=hp _ _ (by omega) hj' (by omega)
 have h2:l[j-1]<l[j]:=by
  rcases List.le_iff_lt_or_eq.1 h1 with h3|h3
  ·exact h3
  ·exact absurd h3.symm hne
 rcases Nat.lt_or_ge i (j-1)with h3|h3
 ·exact List.lt_of_le_of_lt (hp _ _ hi' (by omega) h3) h2
 ·obtain rfl:i=j-1:=by omega
  exact h2
theorem zy8 (l:List (List UInt8)):zC0 ((zdH (zhC l)).map Str.mk):=List.pairwise_map.2 (zuu (zv9 l))
end Go.Abs
