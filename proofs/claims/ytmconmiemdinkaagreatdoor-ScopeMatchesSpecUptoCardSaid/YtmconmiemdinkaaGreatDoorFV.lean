import Derived.Test.YtmconmiemdinkaaGreatDoorY19
set_option linter.unusedSimpArgs false
namespace Go.Abs
open Go
mutual
theorem zwz:∀(f:zac),shp false f→∀p∈pds f,zav p.name=true
 | .mk k nm ws s,h,p,hp=>by
  rw[shp]at h
  rw[pds]at hp
  rcases List.mem_append.1 hp with hp|hp
  ·split at hp
   ·rename_i hk
    rw[List.mem_singleton.1 hp]
    subst hk
    exact h.1.2.2.1 rfl (by unfold isQ;show¬((2:Int)=8∨(2:Int)=9);omega)
   ·simp at hp
  ·exact zne s h.2 p hp
theorem zne:∀(fs:List zac),zdO false fs→∀p∈zt1 fs,zav p.name=true
 |[],_,p,hp=>by simp[zt1]at hp
 |f::fs,h,p,hp=>by
  rw[zdO]at h
  rw[zt1]at hp
  rcases List.mem_append.1 hp with hp|hp
  ·exact zwz f h.1 p hp
  ·exact zne fs h.2 p hp
end
mutual
theorem zwc {m:zdg}:∀(f:zac),(∀p∈pds f,(zv1 m p.name p.arity).isSome=true)→zyP m f=true
 | .mk k nm ws s,h=>by
  rw[zyP]
  have h2:=zmM s fun p hp=>h p (by rw[pds];exact List.mem_append_right _ hp)
  by_cases hk:k=2
  ·have h3:=h ⟨nm,ws.length⟩ (by rw[pds,if_pos hk];simp)
   simp[h2,h3]
  ·simp[h2,hk]
theorem zmM {m:zdg}:∀(fs:List zac),(∀p∈zt1 fs,(zv1 m p.name p.arity).isSome=true)→zk9 m fs=true
 |[],_=>by rw[zk9]
 |f::fs,h=>by
  rw[zk9,zwc f fun p hp=>h p (by rw[zt1];exact List.mem_append_left _ hp),zmM fs fun p hp=>h p (by rw[zt1];exact List.mem_append_right _ hp)]
  rfl
end
end Go.Abs
