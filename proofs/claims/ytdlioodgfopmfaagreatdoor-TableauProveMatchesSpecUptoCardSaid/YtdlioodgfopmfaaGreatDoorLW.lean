import Derived.Test.YtdlioodgfopmfaaGreatDoorCN
set_option linter.unusedSimpArgs false
namespace Go.Abs
open Go
mutual
def zac.depth:zac→Nat
 | .mk _ _ _ s=>zac.depths s+1
def zac.depths:List zac→Nat
 |[]=>0
 |f::fs=>max f.depth (zac.depths fs)
end
def zkL (f:zac):Bool:=decide (f.size≤200∧f.depth≤40)
mutual
theorem zac.depth_size:∀f:zac,f.depth≤f.size
 | .mk k n w s=>by rw[zac.depth,zac.size];have:=zac.depths_size s;omega
theorem zac.depths_size:∀fs:List zac,zac.depths fs≤zac.sizes fs
 |[]=>by rw[zac.depths,zac.sizes];exact Nat.le_refl _
 |f::fs=>by rw[zac.depths,zac.sizes];have:=f.depth_size;have:=zac.depths_size fs;omega
end
mutual
theorem zoX {op:Bool}:∀(f:zac) (d:Int) (n:Nat),(chk op f d n).1.code=0→(chk op f d n).2=n+f.size
 | .mk k nm w s,d,n,h=>by
  rw[chk]at h ⊢
  split at h
  ·rename_i h1;exact absurd h h1
  ·rename_i h1
   rw[if_neg h1,zac.size,zlT s _ _ h];omega
theorem zlT {op:Bool}:∀(fs:List zac) (d:Int) (n:Nat),(zeH op fs d n).1.code=0→(zeH op fs d n).2=n+zac.sizes fs
 |[],d,n,_=>by rw[zeH,zac.sizes];rfl
 |f::fs,d,n,h=>by
  rw[zeH]at h ⊢
  split at h
  ·rename_i h1;exact absurd h h1
  ·rename_i h1
   have h2:=zoX f d n (Decidable.not_not.1 h1)
   rw[if_neg h1,zlT fs d _ h,h2,zac.sizes];omega
end
theorem zdr {op:Bool}{f:zac}(h:(zaE op f).code=0):f.size≤200:=by
 have h1:=zoX f 1 0 h
 have h2:=(zsi f 1 0 h).2.1
 omega
theorem zgp {s:Str}(h:zas s=true):¬zfE s:=by
 unfold zas at h
 have h:=(of_decide_eq_true h).2.2.1
 intro hb
 unfold zfE at hb
 have h0:s.l.getD 0 0=33:=by rw[List.getD_eq_getElem?_getD,←List.head?_eq_getElem?,hb];rfl
 rw[h0]at h
 exact absurd h (by decide)
theorem zdB {op:Bool}{f:zac}{d:Int}{n:Nat}(h:zdA op f d n=0):f.words.all zas=true∧(named f=true→zas f.name=true)∧(named f=false→f.name=⟨[]⟩)∧zdc f=true∧(f.subs.length:Int)=zbt op f:=by
 unfold zdA at h
 split at h
 ·simp at h
 split at h
 ·simp at h
 split at h
 ·simp at h
 rename_i h3
 split at h
 ·simp at h
 rename_i h4
 split at h
 ·simp at h
 rename_i h5
 split at h
 ·simp at h
 rename_i h6
 have h7:=Decidable.not_not.1 h3
 refine⟨by simpa using h6,fun h8=>?_,fun h8=>?_,h7.2,h7.1⟩
 ·cases hn:zas f.name with
  |true=>rfl
  |false=>exact absurd ⟨h8,hn⟩ h4
 ·exact Decidable.not_not.1 fun hn=>h5 ⟨h8,hn⟩
mutual
theorem zsf {op:Bool}:∀(f:zac) (d:Int) (n:Nat),(chk op f d n).1.code=0→clean f
 | .mk k nm w s,d,n,h=>by
  rw[chk]at h
  split at h
  ·rename_i h1;exact absurd h h1
  ·rename_i h1
   have h2:=(zdB (Decidable.not_not.1 h1)).1
   rw[clean]
   exact⟨fun x hx=>zgp (List.all_eq_true.1 h2 x hx),zjC s _ _ h⟩
theorem zjC {op:Bool}:∀(fs:List zac) (d:Int) (n:Nat),(zeH op fs d n).1.code=0→zb0 fs
 |[],d,n,_=>by rw[zb0];trivial
 |f::fs,d,n,h=>by
  rw[zeH]at h
  split at h
  ·rename_i h1;exact absurd h h1
  ·rename_i h1
   rw[zb0]
   exact⟨zsf f d n (Decidable.not_not.1 h1),zjC fs d _ h⟩
end
theorem zjE:∀l:List zac,zb0 l↔∀f∈l,clean f
 |[]=>by rw[zb0];simp
 |f::l=>by rw[zb0,zjE l];simp
theorem fits_mem:∀l:List zac,zac.fits l=true↔∀f∈l,f.fit=true
 |[]=>by rw[zac.fits];simp
 |f::l=>by rw[zac.fits,Bool.and_eq_true,fits_mem l];simp
theorem znf {c:Nat}:∀l:List zac,(∀f∈l,f.size≤c)→zac.sizes l≤l.length*c
 |[],_=>by rw[zac.sizes];omega
 |f::l,h=>by
  rw[zac.sizes,List.length_cons,Nat.add_mul,Nat.one_mul]
  have h1:=h f (by simp)
  have h2:=znf l fun g hg=>h g (by simp[hg])
  omega
theorem zte (env:List zaR)(w:Str):∀i,i≤env.length→zhK env w i=w∨∃b∈env,zhK env w i=b.to
 |0,_=> .inl rfl
 |i+1,h=>by
  rw[zhK]
  split
  ·refine .inr ⟨env.getD i default,?_,rfl⟩
   rw[List.getD_eq_getElem?_getD,List.getElem?_eq_getElem (by omega)]
   exact List.getElem_mem _
  ·exact zte env w i (by omega)
theorem zth (env:List zaR)(w:Str):lkp env w=w∨∃b∈env,lkp env w=b.to:=zte env w _ (Nat.le_refl _)
mutual
theorem zla (g:Nat→Str×Nat):∀(f:zac) (env:List zaR) (n:Nat),(ren g f env n).1.size=f.size
 | .mk k nm ws s,env,n=>by
  rw[ren]
  split
  ·rw[zac.size,zac.size,ziZ g s]
  ·rw[zac.size,zac.size,ziZ g s]
theorem ziZ (g:Nat→Str×Nat):∀(fs:List zac) (env:List zaR) (n:Nat),zac.sizes (za5 g fs env n).1=zac.sizes fs
 |[],env,n=>by rw[za5]
 |f::fs,env,n=>by rw[za5,zac.sizes,zac.sizes,zla g f,ziZ g fs]
end
mutual
theorem zot (g:Nat→Str×Nat):∀(f:zac) (env:List zaR) (n:Nat),(ren g f env n).1.fit=f.fit
 | .mk k nm ws s,env,n=>by
  rw[ren]
  split
  ·rw[zac.fit,zac.fit,zld g s,List.length_map,zdk]
  ·rw[zac.fit,zac.fit,zld g s,List.length_map,zdk]
theorem zld (g:Nat→Str×Nat):∀(fs:List zac) (env:List zaR) (n:Nat),zac.fits (za5 g fs env n).1=zac.fits fs
 |[],env,n=>by rw[za5]
 |f::fs,env,n=>by rw[za5,zac.fits,zac.fits,zot g f,zld g fs]
end
theorem zmM {env:List zaR}{ws:List Str}(h:∀w∈ws,¬zfE w)(he:∀b∈env,¬zfE b.to):∀w∈ws.map (lkp env),¬zfE w:=by
 intro w hw
 obtain⟨x,hx,rfl⟩:=List.mem_map.1 hw
 rcases zth env x with e|⟨b,hb,e⟩
 ·rw[e];exact h x hx
 ·rw[e];exact he b hb
mutual
theorem zm4 {g:Nat→Str×Nat}(hg:∀k,¬zfE (g k).1):∀(f:zac) (env:List zaR) (n:Nat),clean f→(∀b∈env,¬zfE b.to)→clean (ren g f env n).1
 | .mk k nm ws s,env,n,h,he=>by
  rw[clean]at h
  rw[ren]
  split
  ·rw[clean]
   refine⟨zmM h.1 he,zg4 hg s _ _ h.2 fun b hb=>?_⟩
   rcases List.mem_append.1 hb with hb|hb
   ·exact he b hb
   ·rw[List.mem_singleton.1 hb];exact hg n
  ·rw[clean]
   exact⟨zmM h.1 he,zg4 hg s _ _ h.2 he⟩
theorem zg4 {g:Nat→Str×Nat}(hg:∀k,¬zfE (g k).1):∀(fs:List zac) (env:List zaR) (n:Nat),zb0 fs→(∀b∈env,¬zfE b.to)→zb0 (za5 g fs env n).1
 |[],env,n,_,_=>by rw[za5,zb0];trivial
 |f::fs,env,n,h,he=>by
  rw[zb0]at h
  rw[za5,zb0]
  exact⟨zm4 hg f _ _ h.1 he,zg4 hg fs _ _ h.2 he⟩
end
theorem zbZ (f:zac)(env:List zaR):(zau f env).size=f.size:=zla _ f env 0
theorem zgN (f:zac)(env:List zaR):(zau f env).fit=f.fit:=zot _ f env 0
theorem zlO {f:zac}{env:List zaR}(h:clean f)(he:∀b∈env,¬zfE b.to):clean (zau f env):=zm4 (fun _=>zgs _) f env 0 h he
def zez (k:Int):List zac→zac
 |[]=> .mk 0 ⟨[]⟩ [] []
 |f::l=>l.foldl (fun a x=> .mk k ⟨[]⟩ [] [a,x]) f
theorem zgX (k:Int):∀(l:List zac) (f:zac),((l.foldl (fun a x=>zac.mk k ⟨[]⟩ [] [a,x]) f).size=f.size+zac.sizes l+l.length)∧((l.foldl (fun a x=>zac.mk k ⟨[]⟩ [] [a,x]) f).fit=(f.fit&&zac.fits l))∧(clean (l.foldl (fun a x=>zac.mk k ⟨[]⟩ [] [a,x]) f)↔clean f∧zb0 l)
 |[],f=>by rw[zac.sizes,zac.fits,zb0];simp
 |x::l,f=>by
  rw[List.foldl_cons]
  obtain⟨h1,h2,h3⟩:=zgX k l (.mk k ⟨[]⟩ [] [f,x])
  refine⟨?_,?_,?_⟩
  ·rw[h1];simp only[zac.size,zac.sizes,List.length_cons];omega
  ·rw[h2];simp only[zac.fit,zac.fits,List.length_nil,List.length_cons,Nat.zero_le,decide_true,Bool.true_and,Bool.and_true,Bool.and_assoc];rfl
  ·rw[h3];simp only[clean,zb0,List.not_mem_nil,false_implies,implies_true,true_and,and_true,and_assoc]
theorem zqQ (k:Int)(l:List zac):(zez k l).size≤zac.sizes l+l.length+1:=by
 cases l with
 |nil=>simp only[zez,zac.size,zac.sizes,List.length_nil];omega
 |cons f l=>
  have:=(zgX k l f).1
  show(l.foldl (fun a x=>zac.mk k ⟨[]⟩ [] [a,x]) f).size≤_
  rw[this,zac.sizes,List.length_cons];omega
theorem zs7 (k:Int){l:List zac}(h:zac.fits l=true):(zez k l).fit=true:=by
 cases l with
 |nil=>simp only[zez,zac.fit,zac.fits,List.length_nil,Nat.zero_le,decide_true,Bool.true_and]
 |cons f l=>
  show(l.foldl (fun a x=>zac.mk k ⟨[]⟩ [] [a,x]) f).fit=_
  rw[(zgX k l f).2.1];rwa [zac.fits]at h
def zbk:zac:= .mk 0 ⟨[]⟩ [] []
end Go.Abs
