import Derived.Test.YtkkffhphodngkabGreatDoorY5
import Derived.Test.YtkkffhphodngkabGreatDoorY17
set_option linter.unusedSimpArgs false
namespace Go.Proofs.YtkkffhphodngkabGreatDoor
open Go Go.Abs Go.Proofs
mutual
theorem zmV:∀(p:Prf) (n:Int),zmw p n≤2000→n+p.size=zmw p n
 | .mk k f o nm s,n,h=>by
  rw[zmw]at h ⊢
  have:=zkm s (n+1) h
  rw[Prf.size]
  omega
theorem zkm:∀(s:List Prf) (n:Int),zb4 s n≤2000→n+Prf.sizes s=zb4 s n
 |[],n,h=>by rw[zb4,Prf.sizes];simp
 |x::xs,n,h=>by
  rw[zb4]at h ⊢
  by_cases h1:2000<n
  ·rw[if_pos h1]at h;omega
  ·rw[if_neg h1]at h ⊢
   have i2:=zkm xs (zmw x n) h
   have i1:=zmV x n (by omega)
   rw[Prf.sizes]
   omega
end
def zaQ (ax:List Abs.zac)(g:Abs.zac):List Abs.zac:=zk4 ax++[zlO g]
def zxA (ax:List Abs.zac)(g:Abs.zac)(p:Prf):Bool×zbp:=
 if(za8 ax g).2.code≠0 then(false,(za8 ax g).2)else if 2000<zmw p 0 then(false,⟨1, -3⟩)else(zcd p (zaQ ax g),⟨0,0⟩)
theorem zie {f:Abs.zac}(h:(zaz false f).code=0):brF f:=⟨zcc h,zbW h,by have:=zaY h;omega⟩
theorem zfH {ax:List Abs.zac}{g:Abs.zac}(h:(za8 ax g).2.code=0):za8 ax g=(zaQ ax g,⟨0,0⟩)∧ax.length≤40∧(∀f∈ax,(zaz false f).code=0)∧(zaz false g).code=0:=by
 unfold za8 at h ⊢
 split at h
 ·exact absurd h (by decide)
 rename_i h1
 split at h
 ·rename_i h2;exact absurd h h2
 rename_i h2
 split at h
 ·rename_i h3;exact absurd h h3
 rename_i h3
 rw[if_neg h1,if_neg h2,if_neg h3]
 refine⟨rfl,by omega,fun f hf=>?_,Decidable.not_not.1 h3⟩
 have h4:=Decidable.not_not.1 h2
 clear h h2 h3 h1
 by_cases hc:(zaz false f).code=0
 ·exact hc
 ·exfalso
  have:∀(l:List Abs.zac) (k:Nat),f∈l→(zrY l k).code≠0:=by
   intro l
   induction l with
   |nil=>intro k h;simp at h
   |cons x l ih=>
    intro k hm
    rw[zrY]
    by_cases hx:(zaz false x).code=0
    ·rw[if_neg (by simp[hx])]
     rcases List.mem_cons.1 hm with rfl|hm
     ·exact absurd hx hc
     ·exact ih _ hm
    ·rw[if_pos hx];exact hx
  exact this ax 0 hf h4
theorem zkj {ax:List Abs.zac}{g:Abs.zac}(h1:∀f∈ax,(zaz false f).code=0)(h2:(zaz false g).code=0):∀f∈zaQ ax g,brF f:=fun f hf=>by
 unfold zaQ zk4 at hf
 rcases List.mem_append.1 hf with hf|hf
 ·obtain⟨a,ha,rfl⟩:=List.mem_map.1 hf
  exact(zie (h1 a ha)).cn
 ·rw[List.mem_singleton.1 hf]
  exact(zie h2).ng (by have:=zaY h2;omega)
end Go.Proofs.YtkkffhphodngkabGreatDoor
