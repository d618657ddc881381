import Derived.Test.YtkkffhphodngkaaDoorCN
set_option linter.unusedSimpArgs false
namespace Go.Abs
open Go
def zo2 (l:List Str):Prop:=l.Pairwise fun a b=>a.l<b.l
theorem zjO {a b c:List UInt8}(h1:a<b)(h2:b<c):a<c:=List.lt_trans h1 h2
theorem zdQ {a:List UInt8}:¬a<a:=List.lt_irrefl a
theorem zvn {a b:List UInt8}(h1:¬a<b)(h2:a≠b):b<a:=by
 have h3:b≤a:=List.not_lt.1 h1
 rcases List.le_iff_lt_or_eq.1 h3 with h|h
 ·exact h
 ·exact absurd h.symm h2
theorem zvT {a b:Str}(h:a≠b):a.l≠b.l:=fun e=>h (by cases a;cases b;exact congrArg Str.mk e)
theorem znF:∀{a b:List Str},zo2 a→zo2 b→(∀x,x∈a↔x∈b)→a=b
 |[],[],_,_,_=>rfl
 |[],y::b,_,_,h=>absurd ((h y).2 (by simp)) (by simp)
 |x::a,[],_,_,h=>absurd ((h x).1 (by simp)) (by simp)
 |x::a,y::b,ha,hb,h=>by
  have ha':=List.pairwise_cons.1 ha
  have hb':=List.pairwise_cons.1 hb
  have e:x=y:=by
   refine Classical.byContradiction fun hne=>?_
   have h1:x∈b:=by
    rcases List.mem_cons.1 ((h x).1 (by simp))with h1|h1
    ·exact absurd h1 hne
    ·exact h1
   have h2:y∈a:=by
    rcases List.mem_cons.1 ((h y).2 (by simp))with h2|h2
    ·exact absurd h2.symm hne
    ·exact h2
   exact zdQ (zjO (ha'.1 y h2) (hb'.1 x h1))
  subst e
  rw[znF ha'.2 hb'.2 fun z=>?_]
  have hz:=h z
  simp only[List.mem_cons]at hz
  constructor
  ·intro hza
   rcases hz.1 (.inr hza)with e|h1
   ·rw[e]at hza;exact absurd (ha'.1 x hza) zdQ
   ·exact h1
  ·intro hzb
   rcases hz.2 (.inr hzb)with e|h1
   ·rw[e]at hzb;exact absurd (hb'.1 x hzb) zdQ
   ·exact h1
theorem zdB {p:Str→Bool}:∀{l:List Str} {x:Str},x∈l.take (l.takeWhile p).length→p x=true
 |[],x,h=>by simp at h
 |y::l,x,h=>by
  rw[List.takeWhile_cons]at h
  by_cases hp:p y=true
  ·rw[if_pos hp,List.length_cons,List.take_succ_cons]at h
   rcases List.mem_cons.1 h with rfl|h
   ·exact hp
   ·exact zdB h
  ·rw[if_neg hp]at h;simp at h
theorem zdc {p:Str→Bool}:∀{l:List Str},l.drop (l.takeWhile p).length=[]∨∃y t,l.drop (l.takeWhile p).length=y::t∧p y=false
 |[]=> .inl (by simp)
 |y::l=>by
  rw[List.takeWhile_cons]
  by_cases hp:p y=true
  ·rw[if_pos hp,List.length_cons,List.drop_succ_cons]
   exact zdc
  ·rw[if_neg hp]
   exact .inr ⟨y,l,rfl,by simpa using hp⟩
theorem zxx {l:List Str}(h:zo2 l)(s:Str):zo2 (zeo l s):=by
 unfold zeo
 split
 ·exact h
 ·rename_i hn
  obtain⟨p,hp⟩:∃p:Str→Bool,p=fun x=>decide (x.l<s.l):=⟨_,rfl⟩
  rw[←hp]
  have hT:∀x∈l.take (l.takeWhile p).length,x.l<s.l:=fun x hx=>by
   have:=zdB hx
   rw[hp]at this
   exact of_decide_eq_true this
  have hsp:zo2 (l.take (l.takeWhile p).length++l.drop (l.takeWhile p).length):=by rw[List.take_append_drop];exact h
  have hsp':=List.pairwise_append.1 hsp
  have hD:∀x∈l.drop (l.takeWhile p).length,s.l<x.l:=fun x hx=>by
   rcases zdc (p:=p) (l:=l)with e|⟨y,t,e,hy⟩
   ·rw[e]at hx;cases hx
   ·rw[hp]at hy
    have hy2:¬y.l<s.l:=of_decide_eq_false hy
    have hym:y∈l:=List.mem_of_mem_drop (by rw[e];simp:y∈l.drop (l.takeWhile p).length)
    have hlt:s.l<y.l:=zvn hy2 (zvT fun e2=>hn (e2▸hym))
    rw[e]at hx hsp'
    rcases List.mem_cons.1 hx with rfl|hx
    ·exact hlt
    ·exact zjO hlt ((List.pairwise_cons.1 hsp'.2.1).1 x hx)
  unfold zo2
  rw[List.append_assoc]
  refine List.pairwise_append.2 ⟨hsp'.1,List.pairwise_append.2 ⟨List.pairwise_singleton _ _,hsp'.2.1,fun a ha b hb=>?_⟩,fun a ha b hb=>?_⟩
  ·rw[List.mem_singleton.1 ha];exact hD b hb
  ·rcases List.mem_append.1 hb with hb|hb
   ·rw[List.mem_singleton.1 hb];exact hT a ha
   ·exact hsp'.2.2 a ha b hb
theorem zo4:∀(ws l:List Str),zo2 l→zo2 (ws.foldl zeo l)
 |[],_,h=>h
 |w::ws,l,h=>zo4 ws (zeo l w) (zxx h w)
theorem zsL (l:List (List UInt8)):(zgL l).Pairwise (· ≤·):=by
 unfold zgL
 refine(List.pairwise_mergeSort (le:=fun x y=>decide (x≤y)) (fun a b c h1 h2=>?_) (fun a b=>?_) l).imp fun h=>of_decide_eq_true h
 ·exact decide_eq_true (List.le_trans (of_decide_eq_true h1) (of_decide_eq_true h2))
 ·rcases List.le_total a b with h|h<;>simp[h]
theorem zrt {l:List (List UInt8)}(h:l.Pairwise (· ≤·)):(zda l).Pairwise (· <·):=by
 unfold zda Lib.compact Lib.compactUpTo
 refine List.pairwise_map.2 ?_
 have hr:(List.range l.length).Pairwise (· <·):=List.pairwise_lt_range
 refine List.Pairwise.imp_of_mem ?_ (hr.filter (Lib.keeps l.toArray))
 intro i j hi hj hij
 have hi':=List.mem_range.1 (List.mem_filter.1 hi).1
 have hj':=List.mem_range.1 (List.mem_filter.1 hj).1
 have hk:=(List.mem_filter.1 hj).2
 have hget:∀j (h:j<l.length),(l.toArray)[j]! =l[j]:=fun j h=>by simp[h]
 unfold Lib.keeps at hk
 have hk:=of_decide_eq_true hk
 rw[hget i hi',hget j hj']
 rw[hget j hj',hget (j-1) (by omega)]at hk
 have hne:l[j]≠l[j-1]:=by
  rcases hk with h0|h0
  ·omega
  ·exact h0
 have hp:=List.pairwise_iff_getElem.1 h
 have h1:l[j-1]≤l[j]:=hp _ _ (by omega) hj' (by omega)
 have h2:l[j-1]<l[j]:=by
  rcases List.le_iff_lt_or_eq.1 h1 with h3|h3
  ·exact h3
  ·exact absurd h3.symm hne
 rcases Nat.lt_or_ge i (j-1)with h3|h3
 ·exact List.lt_of_le_of_lt (hp _ _ hi' (by omega) h3) h2
 ·obtain rfl:i=j-1:=by omega
  exact h2
theorem zo3 (l:List (List UInt8)):zo2 ((zda (zgL l)).map Str.mk):=List.pairwise_map.2 (zrt (zsL l))
end Go.Abs
