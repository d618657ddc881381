import Derived.Test.YtkkffhphodngkaaGreatDoorY5
import Derived.Test.YtkkffhphodngkaaGreatDoorY17
set_option linter.unusedSimpArgs false
namespace Go.Proofs.YtkkffhphodngkaaGreatDoor
open Go Go.Abs Go.Proofs
mutual
theorem ztB:∀(p:Prf) (n:Int),zwx p n≤2000→n+p.size=zwx p n
 | .mk k f o nm s,n,h=>by
  rw[zwx]at h ⊢
  have:=zjL s (n+1) h
  rw[Prf.size]
  omega
theorem zjL:∀(s:List Prf) (n:Int),zjl s n≤2000→n+Prf.sizes s=zjl s n
 |[],n,h=>by rw[zjl,Prf.sizes];simp
 |x::xs,n,h=>by
  rw[zjl]at h ⊢
  by_cases h1:2000<n
  ·rw[if_pos h1]at h;omega
  ·rw[if_neg h1]at h ⊢
   have i2:=zjL xs (zwx x n) h
   have i1:=ztB x n (by omega)
   rw[Prf.sizes]
   omega
end
def zbs (ax:List Abs.zab)(g:Abs.zab):List Abs.zab:=zmb ax++[zob g]
theorem zkw {f:Abs.zab}(h:(zaw false f).code=0):brF f:=⟨zb4 h,zb3 h,by have:=za7 h;omega⟩
theorem zkv {ax:List Abs.zab}{g:Abs.zab}(h:(zbY ax g).2.code=0):zbY ax g=(zbs ax g,⟨0,0⟩)∧ax.length≤40∧(∀f∈ax,(zaw false f).code=0)∧(zaw false g).code=0:=by
 unfold zbY at h ⊢
 split at h
 ·exact absurd h (by decide)
 rename_i h1
 split at h
 ·rename_i h2;exact absurd h h2
 rename_i h2
 split at h
 ·rename_i h3;exact absurd h h3
 rename_i h3
 rw[if_neg h1,if_neg h2,if_neg h3]
 refine⟨rfl,by omega,fun f hf=>?_,Decidable.not_not.1 h3⟩
 have h4:=Decidable.not_not.1 h2
 clear h h2 h3 h1
 by_cases hc:(zaw false f).code=0
 ·exact hc
 ·exfalso
  have:∀(l:List Abs.zab) (k:Nat),f∈l→(zvU l k).code≠0:=by
   intro l
   induction l with
   |nil=>intro k h;simp at h
   |cons x l ih=>
    intro k hm
    rw[zvU]
    by_cases hx:(zaw false x).code=0
    ·rw[if_neg (by simp[hx])]
     rcases List.mem_cons.1 hm with rfl|hm
     ·exact absurd hx hc
     ·exact ih _ hm
    ·rw[if_pos hx];exact hx
  exact this ax 0 hf h4
theorem zrk {ax:List Abs.zab}{g:Abs.zab}(h1:∀f∈ax,(zaw false f).code=0)(h2:(zaw false g).code=0):∀f∈zbs ax g,brF f:=fun f hf=>by
 unfold zbs zmb at hf
 rcases List.mem_append.1 hf with hf|hf
 ·obtain⟨a,ha,rfl⟩:=List.mem_map.1 hf
  exact(zkw (h1 a ha)).cn
 ·rw[List.mem_singleton.1 hf]
  exact(zkw h2).ng (by have:=za7 h2;omega)
end Go.Proofs.YtkkffhphodngkaaGreatDoor
