import Derived.Test.YtkkffhphodngkaaDoorCN
set_option linter.unusedSimpArgs false
namespace Go.Abs
open Go
mutual
def zaf.depth:zaf→Nat
 | .mk _ _ _ s=>zaf.depths s+1
def zaf.depths:List zaf→Nat
 |[]=>0
 |f::fs=>max f.depth (zaf.depths fs)
end
def zka (f:zaf):Bool:=decide (f.size≤200∧f.depth≤40)
mutual
theorem zaf.depth_size:∀f:zaf,f.depth≤f.size
 | .mk k n w s=>by rw[zaf.depth,zaf.size];have:=zaf.depths_size s;omega
theorem zaf.depths_size:∀fs:List zaf,zaf.depths fs≤zaf.sizes fs
 |[]=>by rw[zaf.depths,zaf.sizes];exact Nat.le_refl _
 |f::fs=>by rw[zaf.depths,zaf.sizes];have:=f.depth_size;have:=zaf.depths_size fs;omega
end
mutual
theorem zn6 {op:Bool}:∀(f:zaf) (d:Int) (n:Nat),(chk op f d n).1.code=0→(chk op f d n).2=n+f.size
 | .mk k nm w s,d,n,h=>by
  rw[chk]at h ⊢
  split at h
  ·rename_i h1;exact absurd h h1
  ·rename_i h1
   rw[if_neg h1,zaf.size,zk2 s _ _ h];omega
theorem zk2 {op:Bool}:∀(fs:List zaf) (d:Int) (n:Nat),(zek op fs d n).1.code=0→(zek op fs d n).2=n+zaf.sizes fs
 |[],d,n,_=>by rw[zek,zaf.sizes];rfl
 |f::fs,d,n,h=>by
  rw[zek]at h ⊢
  split at h
  ·rename_i h1;exact absurd h h1
  ·rename_i h1
   have h2:=zn6 f d n (Decidable.not_not.1 h1)
   rw[if_neg h1,zk2 fs d _ h,h2,zaf.sizes];omega
end
theorem zaT {op:Bool}{f:zaf}(h:(zaA op f).code=0):f.size≤200:=by
 have h1:=zn6 f 1 0 h
 have h2:=(zrn f 1 0 h).2.1
 omega
theorem zse {s:Str}(h:zax s=true):¬zmF s:=by
 unfold zax at h
 have h:=(of_decide_eq_true h).2.2.1
 intro hb
 unfold zmF at hb
 have h0:s.l.getD 0 0=33:=by rw[List.getD_eq_getElem?_getD,←List.head?_eq_getElem?,hb];rfl
 rw[h0]at h
 exact absurd h (by decide)
theorem zdk {op:Bool}{f:zaf}{d:Int}{n:Nat}(h:zdj op f d n=0):f.words.all zax=true∧(named f=true→zax f.name=true)∧(named f=false→f.name=⟨[]⟩)∧zdn f=true∧(f.subs.length:Int)=zbl op f:=by
 unfold zdj at h
 split at h
 ·simp at h
 split at h
 ·simp at h
 split at h
 ·simp at h
 rename_i h3
 split at h
 ·simp at h
 rename_i h4
 split at h
 ·simp at h
 rename_i h5
 split at h
 ·simp at h
 rename_i h6
 have h7:=Decidable.not_not.1 h3
 refine⟨by simpa using h6,fun h8=>?_,fun h8=>?_,h7.2,h7.1⟩
 ·cases hn:zax f.name with
  |true=>rfl
  |false=>exact absurd ⟨h8,hn⟩ h4
 ·exact Decidable.not_not.1 fun hn=>h5 ⟨h8,hn⟩
mutual
theorem zrk {op:Bool}:∀(f:zaf) (d:Int) (n:Nat),(chk op f d n).1.code=0→zgs f
 | .mk k nm w s,d,n,h=>by
  rw[chk]at h
  split at h
  ·rename_i h1;exact absurd h h1
  ·rename_i h1
   have h2:=(zdk (Decidable.not_not.1 h1)).1
   rw[zgs]
   exact⟨fun x hx=>zse (List.all_eq_true.1 h2 x hx),zja s _ _ h⟩
theorem zja {op:Bool}:∀(fs:List zaf) (d:Int) (n:Nat),(zek op fs d n).1.code=0→zcS fs
 |[],d,n,_=>by rw[zcS];trivial
 |f::fs,d,n,h=>by
  rw[zek]at h
  split at h
  ·rename_i h1;exact absurd h h1
  ·rename_i h1
   rw[zcS]
   exact⟨zrk f d n (Decidable.not_not.1 h1),zja fs d _ h⟩
end
theorem fits_mem:∀l:List zaf,zaf.fits l=true↔∀f∈l,f.fit=true
 |[]=>by rw[zaf.fits];simp
 |f::l=>by rw[zaf.fits,Bool.and_eq_true,fits_mem l];simp
theorem zmk {c:Nat}:∀l:List zaf,(∀f∈l,f.size≤c)→zaf.sizes l≤l.length*c
 |[],_=>by rw[zaf.sizes];omega
 |f::l,h=>by
  rw[zaf.sizes,List.length_cons,Nat.add_mul,Nat.one_mul]
  have h1:=h f (by simp)
  have h2:=zmk l fun g hg=>h g (by simp[hg])
  omega
theorem zr6 (env:List zbU)(w:Str):∀i,i≤env.length→ziX env w i=w∨∃b∈env,ziX env w i=b.to
 |0,_=> .inl rfl
 |i+1,h=>by
  rw[ziX]
  split
  ·refine .inr ⟨env.getD i default,?_,rfl⟩
   rw[List.getD_eq_getElem?_getD,List.getElem?_eq_getElem (by omega)]
   exact List.getElem_mem _
  ·exact zr6 env w i (by omega)
theorem zvL (env:List zbU)(w:Str):lkp env w=w∨∃b∈env,lkp env w=b.to:=zr6 env w _ (Nat.le_refl _)
mutual
theorem zoT (g:Nat→Str×Nat):∀(f:zaf) (env:List zbU) (n:Nat),(ren g f env n).1.size=f.size
 | .mk k nm ws s,env,n=>by
  rw[ren]
  split
  ·rw[zaf.size,zaf.size,ziz g s]
  ·rw[zaf.size,zaf.size,ziz g s]
theorem ziz (g:Nat→Str×Nat):∀(fs:List zaf) (env:List zbU) (n:Nat),zaf.sizes (zbX g fs env n).1=zaf.sizes fs
 |[],env,n=>by rw[zbX]
 |f::fs,env,n=>by rw[zbX,zaf.sizes,zaf.sizes,zoT g f,ziz g fs]
end
mutual
theorem zxi (g:Nat→Str×Nat):∀(f:zaf) (env:List zbU) (n:Nat),(ren g f env n).1.fit=f.fit
 | .mk k nm ws s,env,n=>by
  rw[ren]
  split
  ·rw[zaf.fit,zaf.fit,zkA g s,List.length_map,zeh]
  ·rw[zaf.fit,zaf.fit,zkA g s,List.length_map,zeh]
theorem zkA (g:Nat→Str×Nat):∀(fs:List zaf) (env:List zbU) (n:Nat),zaf.fits (zbX g fs env n).1=zaf.fits fs
 |[],env,n=>by rw[zbX]
 |f::fs,env,n=>by rw[zbX,zaf.fits,zaf.fits,zxi g f,zkA g fs]
end
theorem zlV {env:List zbU}{ws:List Str}(h:∀w∈ws,¬zmF w)(he:∀b∈env,¬zmF b.to):∀w∈ws.map (lkp env),¬zmF w:=by
 intro w hw
 obtain⟨x,hx,rfl⟩:=List.mem_map.1 hw
 rcases zvL env x with e|⟨b,hb,e⟩
 ·rw[e];exact h x hx
 ·rw[e];exact he b hb
mutual
theorem zsx {g:Nat→Str×Nat}(hg:∀k,¬zmF (g k).1):∀(f:zaf) (env:List zbU) (n:Nat),zgs f→(∀b∈env,¬zmF b.to)→zgs (ren g f env n).1
 | .mk k nm ws s,env,n,h,he=>by
  rw[zgs]at h
  rw[ren]
  split
  ·rw[zgs]
   refine⟨zlV h.1 he,zgI hg s _ _ h.2 fun b hb=>?_⟩
   rcases List.mem_append.1 hb with hb|hb
   ·exact he b hb
   ·rw[List.mem_singleton.1 hb];exact hg n
  ·rw[zgs]
   exact⟨zlV h.1 he,zgI hg s _ _ h.2 he⟩
theorem zgI {g:Nat→Str×Nat}(hg:∀k,¬zmF (g k).1):∀(fs:List zaf) (env:List zbU) (n:Nat),zcS fs→(∀b∈env,¬zmF b.to)→zcS (zbX g fs env n).1
 |[],env,n,_,_=>by rw[zbX,zcS];trivial
 |f::fs,env,n,h,he=>by
  rw[zcS]at h
  rw[zbX,zcS]
  exact⟨zsx hg f _ _ h.1 he,zgI hg fs _ _ h.2 he⟩
end
theorem zhP (f:zaf)(env:List zbU):(zcc f env).size=f.size:=zoT _ f env 0
def zef (k:Int):List zaf→zaf
 |[]=> .mk 0 ⟨[]⟩ [] []
 |f::l=>l.foldl (fun a x=> .mk k ⟨[]⟩ [] [a,x]) f
theorem zgA (k:Int):∀(l:List zaf) (f:zaf),((l.foldl (fun a x=>zaf.mk k ⟨[]⟩ [] [a,x]) f).size=f.size+zaf.sizes l+l.length)∧((l.foldl (fun a x=>zaf.mk k ⟨[]⟩ [] [a,x]) f).fit=(f.fit&&zaf.fits l))∧(zgs (l.foldl (fun a x=>zaf.mk k ⟨[]⟩ [] [a,x]) f)↔zgs f∧zcS l)
 |[],f=>by rw[zaf.sizes,zaf.fits,zcS];simp
 |x::l,f=>by
  rw[List.foldl_cons]
  obtain⟨h1,h2,h3⟩:=zgA k l (.mk k ⟨[]⟩ [] [f,x])
  refine⟨?_,?_,?_⟩
  ·rw[h1];simp only[zaf.size,zaf.sizes,List.length_cons];omega
  ·rw[h2];simp only[zaf.fit,zaf.fits,List.length_nil,List.length_cons,Nat.zero_le,decide_true,Bool.true_and,Bool.and_true,Bool.and_assoc];rfl
  ·rw[h3];simp only[zgs,zcS,List.not_mem_nil,false_implies,implies_true,true_and,and_true,and_assoc]
theorem zp9 (k:Int)(l:List zaf):(zef k l).size≤zaf.sizes l+l.length+1:=by
 cases l with
 |nil=>simp only[zef,zaf.size,zaf.sizes,List.length_nil];omega
 |cons f l=>
  have:=(zgA k l f).1
  show(l.foldl (fun a x=>zaf.mk k ⟨[]⟩ [] [a,x]) f).size≤_
  rw[this,zaf.sizes,List.length_cons];omega
theorem zrW (k:Int){l:List zaf}(h:zaf.fits l=true):(zef k l).fit=true:=by
 cases l with
 |nil=>simp only[zef,zaf.fit,zaf.fits,List.length_nil,Nat.zero_le,decide_true,Bool.true_and]
 |cons f l=>
  show(l.foldl (fun a x=>zaf.mk k ⟨[]⟩ [] [a,x]) f).fit=_
  rw[(zgA k l f).2.1];rwa [zaf.fits]at h
def zhj:zaf:= .mk 0 ⟨[]⟩ [] []
end Go.Abs
