import Derived.Test.YtkkffhphodngkaaDoorPV
set_option linter.unusedSimpArgs false
namespace Go.Abs
open Go
structure zhf (uses:Int)(b:Brn)(a:Int):Prop where
 br:∀f∈b.list,brF f
 ll:(b.list.length:Int)≤41+a
 ul:b.used.length=b.list.length
 sl:b.seen.length=b.list.length
 ss:∀s∈b.seen,(s.length:Int)≤a
 r0:0≤b.rounds
 r1:b.rounds≤uses
 u:uses≤1000
 a0:0≤a
 a1:a≤300
section
variable {uses:Int} {b:Brn} {a:Int}
theorem zhf.mono (h:zhf uses b a){a':Int}(h1:a≤a')(h2:a'≤300):zhf uses b a':=
 ⟨h.br,by have:=h.ll;omega,h.ul,h.sl,fun s hs=>by have:=h.ss s hs;omega,h.r0,h.r1,h.u,by have:=h.a0;omega,h2⟩
theorem zhf.mark (h:zhf uses b a)(i:Nat):zhf uses (zAg b i) a:=
 ⟨h.br,h.ll,by unfold zAg;simp only[List.length_set];exact h.ul,h.sl,h.ss,h.r0,h.r1,h.u,h.a0,h.a1⟩
theorem zhf.add (h:zhf uses b a){fs:List zaf}(hf:∀f∈fs,brF f){a':Int}(ha:a'=a+fs.length)(h2:a'≤300):zhf uses (zEE b fs) a':=by
 subst ha
 have hll:=h.ll
 have ha0:=h.a0
 refine⟨fun f hf'=>?_,?_,?_,?_,fun s hs=>?_,h.r0,h.r1,h.u,by omega,h2⟩
 ·rcases List.mem_append.1 hf' with h1|h1
  ·exact h.br f h1
  ·exact hf f h1
 ·show((b.list++fs).length:Int)≤_
  rw[List.length_append];omega
 ·show(b.used++List.replicate fs.length false).length=(b.list++fs).length
  rw[List.length_append,List.length_append,List.length_replicate,h.ul]
 ·show(b.seen++List.replicate fs.length []).length=(b.list++fs).length
  rw[List.length_append,List.length_append,List.length_replicate,h.sl]
 ·rcases List.mem_append.1 hs with h1|h1
  ·have:=h.ss s h1;omega
  ·rw[(List.mem_replicate.1 h1).2];simp only[List.length_nil];omega
theorem zhf.saw (h:zhf uses b a){i:Nat}{w:Str}{I:zaf}(hi:i<b.seen.length)(hI:brF I)(h2:a+1≤300):zhf uses (zEE (saw b i w) [I]) (a+1):=by
 have hll:=h.ll
 have ha0:=h.a0
 refine⟨fun f hf'=>?_,?_,?_,?_,fun s hs=>?_,h.r0,h.r1,h.u,by omega,h2⟩
 ·rcases List.mem_append.1 hf' with h1|h1
  ·exact h.br f h1
  ·rw[List.mem_singleton.1 h1];exact hI
 ·show((b.list++[I]).length:Int)≤_
  rw[List.length_append,List.length_singleton];omega
 ·show(b.used++List.replicate 1 false).length=(b.list++[I]).length
  rw[List.length_append,List.length_append,List.length_replicate,h.ul];rfl
 ·show(b.seen.set i (b.seen.getD i []++[w])++List.replicate 1 []).length=(b.list++[I]).length
  rw[List.length_append,List.length_append,List.length_replicate,List.length_set,h.sl];rfl
 ·rcases List.mem_append.1 hs with h1|h1
  ·rcases List.mem_or_eq_of_mem_set h1 with h3|h3
   ·have:=h.ss s h3;omega
   ·have hm:b.seen.getD i []∈b.seen:=by
     rw[List.getD_eq_getElem?_getD,List.getElem?_eq_getElem hi];exact List.getElem_mem hi
    have h4:=h.ss _ hm
    rw[h3,List.length_append,List.length_singleton]
    omega
  ·rw[(List.mem_replicate.1 h1).2];simp only[List.length_nil];omega
end
end Go.Abs
