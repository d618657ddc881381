import Derived.Test.YtkkffhphodngkaaDoorCN
set_option linter.unusedSimpArgs false
namespace Go.Abs
open Go
mutual
def zac.depth:zac→Nat
 | .mk _ _ _ s=>zac.depths s+1
def zac.depths:List zac→Nat
 |[]=>0
 |f::fs=>max f.depth (zac.depths fs)
end
def zjw (f:zac):Bool:=decide (f.size≤200∧f.depth≤40)
mutual
theorem zac.depth_size:∀f:zac,f.depth≤f.size
 | .mk k n w s=>by rw[zac.depth,zac.size];have:=zac.depths_size s;omega
theorem zac.depths_size:∀fs:List zac,zac.depths fs≤zac.sizes fs
 |[]=>by rw[zac.depths,zac.sizes];exact Nat.le_refl _
 |f::fs=>by rw[zac.depths,zac.sizes];have:=f.depth_size;have:=zac.depths_size fs;omega
end
mutual
theorem znc {op:Bool}:∀(f:zac) (d:Int) (n:Nat),(chk op f d n).1.code=0→(chk op f d n).2=n+f.size
 | .mk k nm w s,d,n,h=>by
  rw[chk]at h ⊢
  split at h
  ·rename_i h1;exact absurd h h1
  ·rename_i h1
   rw[if_neg h1,zac.size,zkl s _ _ h];omega
theorem zkl {op:Bool}:∀(fs:List zac) (d:Int) (n:Nat),(zdZ op fs d n).1.code=0→(zdZ op fs d n).2=n+zac.sizes fs
 |[],d,n,_=>by rw[zdZ,zac.sizes];rfl
 |f::fs,d,n,h=>by
  rw[zdZ]at h ⊢
  split at h
  ·rename_i h1;exact absurd h h1
  ·rename_i h1
   have h2:=znc f d n (Decidable.not_not.1 h1)
   rw[if_neg h1,zkl fs d _ h,h2,zac.sizes];omega
end
theorem zaZ {op:Bool}{f:zac}(h:(zaz op f).code=0):f.size≤200:=by
 have h1:=znc f 1 0 h
 have h2:=(zqu f 1 0 h).2.1
 omega
theorem zrl {s:Str}(h:zaq s=true):¬zlU s:=by
 unfold zaq at h
 have h:=(of_decide_eq_true h).2.2.1
 intro hb
 unfold zlU at hb
 have h0:s.l.getD 0 0=33:=by rw[List.getD_eq_getElem?_getD,←List.head?_eq_getElem?,hb];rfl
 rw[h0]at h
 exact absurd h (by decide)
theorem zc8 {op:Bool}{f:zac}{d:Int}{n:Nat}(h:zc7 op f d n=0):f.words.all zaq=true∧(named f=true→zaq f.name=true)∧(named f=false→f.name=⟨[]⟩)∧zda f=true∧(f.subs.length:Int)=zba op f:=by
 unfold zc7 at h
 split at h
 ·simp at h
 split at h
 ·simp at h
 split at h
 ·simp at h
 rename_i h3
 split at h
 ·simp at h
 rename_i h4
 split at h
 ·simp at h
 rename_i h5
 split at h
 ·simp at h
 rename_i h6
 have h7:=Decidable.not_not.1 h3
 refine⟨by simpa using h6,fun h8=>?_,fun h8=>?_,h7.2,h7.1⟩
 ·cases hn:zaq f.name with
  |true=>rfl
  |false=>exact absurd ⟨h8,hn⟩ h4
 ·exact Decidable.not_not.1 fun hn=>h5 ⟨h8,hn⟩
mutual
theorem zqr {op:Bool}:∀(f:zac) (d:Int) (n:Nat),(chk op f d n).1.code=0→zfV f
 | .mk k nm w s,d,n,h=>by
  rw[chk]at h
  split at h
  ·rename_i h1;exact absurd h h1
  ·rename_i h1
   have h2:=(zc8 (Decidable.not_not.1 h1)).1
   rw[zfV]
   exact⟨fun x hx=>zrl (List.all_eq_true.1 h2 x hx),ziv s _ _ h⟩
theorem ziv {op:Bool}:∀(fs:List zac) (d:Int) (n:Nat),(zdZ op fs d n).1.code=0→zcI fs
 |[],d,n,_=>by rw[zcI];trivial
 |f::fs,d,n,h=>by
  rw[zdZ]at h
  split at h
  ·rename_i h1;exact absurd h h1
  ·rename_i h1
   rw[zcI]
   exact⟨zqr f d n (Decidable.not_not.1 h1),ziv fs d _ h⟩
end
theorem fits_mem:∀l:List zac,zac.fits l=true↔∀f∈l,f.fit=true
 |[]=>by rw[zac.fits];simp
 |f::l=>by rw[zac.fits,Bool.and_eq_true,fits_mem l];simp
theorem zlB {c:Nat}:∀l:List zac,(∀f∈l,f.size≤c)→zac.sizes l≤l.length*c
 |[],_=>by rw[zac.sizes];omega
 |f::l,h=>by
  rw[zac.sizes,List.length_cons,Nat.add_mul,Nat.one_mul]
  have h1:=h f (by simp)
  have h2:=zlB l fun g hg=>h g (by simp[hg])
  omega
theorem zre (env:List zbI)(w:Str):∀i,i≤env.length→zij env w i=w∨∃b∈env,zij env w i=b.to
 |0,_=> .inl rfl
 |i+1,h=>by
  rw[zij]
  split
  ·refine .inr ⟨env.getD i default,?_,rfl⟩
   rw[List.getD_eq_getElem?_getD,List.getElem?_eq_getElem (by omega)]
   exact List.getElem_mem _
  ·exact zre env w i (by omega)
theorem zuy (env:List zbI)(w:Str):lkp env w=w∨∃b∈env,lkp env w=b.to:=zre env w _ (Nat.le_refl _)
mutual
theorem znZ (g:Nat→Str×Nat):∀(f:zac) (env:List zbI) (n:Nat),(ren g f env n).1.size=f.size
 | .mk k nm ws s,env,n=>by
  rw[ren]
  split
  ·rw[zac.size,zac.size,zhT g s]
  ·rw[zac.size,zac.size,zhT g s]
theorem zhT (g:Nat→Str×Nat):∀(fs:List zac) (env:List zbI) (n:Nat),zac.sizes (zbK g fs env n).1=zac.sizes fs
 |[],env,n=>by rw[zbK]
 |f::fs,env,n=>by rw[zbK,zac.sizes,zac.sizes,znZ g f,zhT g fs]
end
mutual
theorem zv1 (g:Nat→Str×Nat):∀(f:zac) (env:List zbI) (n:Nat),(ren g f env n).1.fit=f.fit
 | .mk k nm ws s,env,n=>by
  rw[ren]
  split
  ·rw[zac.fit,zac.fit,zjS g s,List.length_map,zdW]
  ·rw[zac.fit,zac.fit,zjS g s,List.length_map,zdW]
theorem zjS (g:Nat→Str×Nat):∀(fs:List zac) (env:List zbI) (n:Nat),zac.fits (zbK g fs env n).1=zac.fits fs
 |[],env,n=>by rw[zbK]
 |f::fs,env,n=>by rw[zbK,zac.fits,zac.fits,zv1 g f,zjS g fs]
end
theorem zla {env:List zbI}{ws:List Str}(h:∀w∈ws,¬zlU w)(he:∀b∈env,¬zlU b.to):∀w∈ws.map (lkp env),¬zlU w:=by
 intro w hw
 obtain⟨x,hx,rfl⟩:=List.mem_map.1 hw
 rcases zuy env x with e|⟨b,hb,e⟩
 ·rw[e];exact h x hx
 ·rw[e];exact he b hb
mutual
theorem zrC {g:Nat→Str×Nat}(hg:∀k,¬zlU (g k).1):∀(f:zac) (env:List zbI) (n:Nat),zfV f→(∀b∈env,¬zlU b.to)→zfV (ren g f env n).1
 | .mk k nm ws s,env,n,h,he=>by
  rw[zfV]at h
  rw[ren]
  split
  ·rw[zfV]
   refine⟨zla h.1 he,zf6 hg s _ _ h.2 fun b hb=>?_⟩
   rcases List.mem_append.1 hb with hb|hb
   ·exact he b hb
   ·rw[List.mem_singleton.1 hb];exact hg n
  ·rw[zfV]
   exact⟨zla h.1 he,zf6 hg s _ _ h.2 he⟩
theorem zf6 {g:Nat→Str×Nat}(hg:∀k,¬zlU (g k).1):∀(fs:List zac) (env:List zbI) (n:Nat),zcI fs→(∀b∈env,¬zlU b.to)→zcI (zbK g fs env n).1
 |[],env,n,_,_=>by rw[zbK,zcI];trivial
 |f::fs,env,n,h,he=>by
  rw[zcI]at h
  rw[zbK,zcI]
  exact⟨zrC hg f _ _ h.1 he,zf6 hg fs _ _ h.2 he⟩
end
theorem zg8 (f:zac)(env:List zbI):(zb0 f env).size=f.size:=znZ _ f env 0
def zdU (k:Int):List zac→zac
 |[]=> .mk 0 ⟨[]⟩ [] []
 |f::l=>l.foldl (fun a x=> .mk k ⟨[]⟩ [] [a,x]) f
theorem zf0 (k:Int):∀(l:List zac) (f:zac),((l.foldl (fun a x=>zac.mk k ⟨[]⟩ [] [a,x]) f).size=f.size+zac.sizes l+l.length)∧((l.foldl (fun a x=>zac.mk k ⟨[]⟩ [] [a,x]) f).fit=(f.fit&&zac.fits l))∧(zfV (l.foldl (fun a x=>zac.mk k ⟨[]⟩ [] [a,x]) f)↔zfV f∧zcI l)
 |[],f=>by rw[zac.sizes,zac.fits,zcI];simp
 |x::l,f=>by
  rw[List.foldl_cons]
  obtain⟨h1,h2,h3⟩:=zf0 k l (.mk k ⟨[]⟩ [] [f,x])
  refine⟨?_,?_,?_⟩
  ·rw[h1];simp only[zac.size,zac.sizes,List.length_cons];omega
  ·rw[h2];simp only[zac.fit,zac.fits,List.length_nil,List.length_cons,Nat.zero_le,decide_true,Bool.true_and,Bool.and_true,Bool.and_assoc];rfl
  ·rw[h3];simp only[zfV,zcI,List.not_mem_nil,false_implies,implies_true,true_and,and_true,and_assoc]
theorem zpg (k:Int)(l:List zac):(zdU k l).size≤zac.sizes l+l.length+1:=by
 cases l with
 |nil=>simp only[zdU,zac.size,zac.sizes,List.length_nil];omega
 |cons f l=>
  have:=(zf0 k l f).1
  show(l.foldl (fun a x=>zac.mk k ⟨[]⟩ [] [a,x]) f).size≤_
  rw[this,zac.sizes,List.length_cons];omega
theorem zq5 (k:Int){l:List zac}(h:zac.fits l=true):(zdU k l).fit=true:=by
 cases l with
 |nil=>simp only[zdU,zac.fit,zac.fits,List.length_nil,Nat.zero_le,decide_true,Bool.true_and]
 |cons f l=>
  show(l.foldl (fun a x=>zac.mk k ⟨[]⟩ [] [a,x]) f).fit=_
  rw[(zf0 k l f).2.1];rwa [zac.fits]at h
def zgF:zac:= .mk 0 ⟨[]⟩ [] []
end Go.Abs
