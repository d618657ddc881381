import Derived.Test.YtdlioodgfopmfaaGreatDoorVS
import Derived.Test.YtdlioodgfopmfaaGreatDoorAL
set_option linter.unusedSimpArgs false
namespace Go.Abs
open Go
def cnn (f:zac):zac:=zau f []
def ngg (f:zac):zac:=zau (zdP f) []
def zbo (f:zac):zac:=f.subs.getD 0 (.mk 0 ⟨[]⟩ [] [])
def zua (f:zac):zac:=f.subs.getD 1 (.mk 0 ⟨[]⟩ [] [])
def zag (f:zac):Int×List zac×zac×Bool:=
 if f.kind=5 then(1,[cnn (zbo f),cnn (zua f)],zbk,false)
 else if f.kind=6 then(2,[cnn (zbo f),cnn (zua f)],zbk,false)
 else if f.kind=7 then(2,[ngg (zbo f),cnn (zua f)],zbk,false)
 else if f.kind=8 then(3,[],f,false)
 else if f.kind=9 then(4,[],f,false)
 else if f.kind=4 then
  if(zbo f).kind=4 then(1,[cnn (zbo (zbo f))],zbk,false)
  else if(zbo f).kind=5 then(2,[ngg (zbo (zbo f)),ngg (zua (zbo f))],zbk,false)
  else if(zbo f).kind=6 then(1,[ngg (zbo (zbo f)),ngg (zua (zbo f))],zbk,false)
  else if(zbo f).kind=7 then(1,[cnn (zbo (zbo f)),ngg (zua (zbo f))],zbk,false)
  else if(zbo f).kind=8 then(4,[],zbo f,true)
  else if(zbo f).kind=9 then(3,[],zbo f,true)
  else(0,[],zbk,false)
 else(0,[],zbk,false)
structure brF (f:zac):Prop where
 v:vok f
 ft:f.fit=true
 s:f.size≤800
theorem brF.sub {f g:zac}(h:brF f)(hg:g∈f.subs):brF g:=by
 have hv:=h.v
 obtain⟨k,nm,ws,s⟩:=f
 rw[vok]at hv
 have hf:=h.ft
 rw[zac.fit]at hf
 simp only[Bool.and_eq_true]at hf
 exact⟨(zly s).1 hv.2.2.2.2.2.2 g hg,zac.fits_mem hf.2 hg,by have:=zac.size_sub hg;have:=h.s;omega⟩
theorem zdd {f:zac}(h:brF f)(hk:f.kind=4∨f.kind=8∨f.kind=9):∃a,f.subs=[a]∧zbo f=a∧brF a:=by
 have h1:=(zbf.1 h.v).2.2.2.2.1 hk
 match hs:f.subs,h1 with
 |[a],_=>exact⟨a,rfl,by unfold zbo;rw[hs];rfl,h.sub (by rw[hs];simp)⟩
theorem zd8 {f:zac}(h:brF f)(hk:f.kind=5∨f.kind=6∨f.kind=7):∃a b,f.subs=[a,b]∧zbo f=a∧zua f=b∧brF a∧brF b:=by
 have h1:=(zbf.1 h.v).2.2.2.2.2.1 hk
 match hs:f.subs,h1 with
 |[a,b],_=>exact⟨a,b,rfl,by unfold zbo;rw[hs];rfl,by unfold zua;rw[hs];rfl,h.sub (by rw[hs];simp),h.sub (by rw[hs];simp)⟩
def zaB (c:List zaR)(w:Str):Str:=c.foldl (fun r l=>if r=l.fr then l.to else r) w
structure wfC (c:List zaR):Prop where
 d:∀i j (hi:i<c.length) (hj:j<c.length),j<i→c[j].fr≠c[i].fr
 t:∀i j (hi:i<c.length) (hj:j<c.length),j≤i→c[j].fr≠c[i].to
theorem zfx (c:List zaR)(l:zaR)(w:Str):zaB (c++[l]) w=if zaB c w=l.fr then l.to else zaB c w:=by
 unfold zaB;rw[List.foldl_append];rfl
theorem zna (a b:List zaR)(w:Str):zaB (a++b) w=zaB b (zaB a w):=by unfold zaB;rw[List.foldl_append]
theorem zgv:∀{c:List zaR} {w:Str},(∀l∈c,l.fr≠w)→zaB c w=w
 |[],w,_=>rfl
 |l::c,w,h=>by
  have h1:¬w=l.fr:=fun e=>h l (by simp) e.symm
  show zaB c (if w=l.fr then l.to else w)=w
  rw[if_neg h1,zgv fun x hx=>h x (by simp[hx])]
theorem zzr {a b:List zaR}(h:wfC (a++b)):wfC a:=by
 refine⟨fun i j hi hj hij=>?_,fun i j hi hj hij=>?_⟩
 ·have:=h.d i j (by rw[List.length_append];omega) (by rw[List.length_append];omega) hij
  rwa [List.getElem_append_left hj,List.getElem_append_left hi]at this
 ·have:=h.t i j (by rw[List.length_append];omega) (by rw[List.length_append];omega) hij
  rwa [List.getElem_append_left hj,List.getElem_append_left hi]at this
theorem zwR {c:List zaR}{l:zaR}(h:wfC c)(h1:∀x∈c,x.fr≠l.fr)(h2:∀x∈c,x.fr≠l.to)(h3:l.fr≠l.to):wfC (c++[l]):=by
 have hl:(c++[l]).length=c.length+1:=by simp
 refine⟨fun i j hi hj hij=>?_,fun i j hi hj hij=>?_⟩
 ·rw[hl]at hi
  have hj2:j<c.length:=by omega
  rw[List.getElem_append_left hj2]
  rcases Nat.lt_or_ge i c.length with h4|h4
  ·rw[List.getElem_append_left h4];exact h.d i j h4 hj2 hij
  ·have:i=c.length:=by omega
   subst this
   rw[List.getElem_append_right (Nat.le_refl _)]
   simpa using h1 _ (List.getElem_mem hj2)
 ·rw[hl]at hi
  rcases Nat.lt_or_ge i c.length with h4|h4
  ·have hj2:j<c.length:=by omega
   rw[List.getElem_append_left hj2,List.getElem_append_left h4];exact h.t i j h4 hj2 hij
  ·have:i=c.length:=by omega
   subst this
   rw[List.getElem_append_right (Nat.le_refl _)]
   rcases Nat.lt_or_ge j c.length with h5|h5
   ·rw[List.getElem_append_left h5]
    simpa using h2 _ (List.getElem_mem h5)
   ·have:j=c.length:=by rw[hl]at hj;omega
    subst this
    rw[List.getElem_append_right (Nat.le_refl _)]
    simpa using h3
theorem zmI {α:Type}:∀(l:List α),l=[]∨∃a x,l=a++[x]
 |[]=> .inl rfl
 |x::l=> .inr (by
  rcases zmI l with rfl|⟨a,y,rfl⟩
  ·exact⟨[],x,rfl⟩
  ·exact⟨x::a,y,rfl⟩)
theorem zg8:∀(n:Nat) (c:List zaR),c.length=n→wfC c→∀w,∀l∈c,l.fr≠zaB c w
 |0,c,hn,_,w,l,hl=>by rw[List.eq_nil_of_length_eq_zero hn]at hl;simp at hl
 |n+1,c,hn,h,w,l,hl=>by
  rcases zmI c with rfl|⟨a,x,rfl⟩
  ·simp at hn
  have hla:a.length=n:=by simpa using hn
  have ih:=zg8 n a hla (zzr h) w
  have hxa:(a++[x])[a.length]'(by simp)=x:=by rw[List.getElem_append_right (Nat.le_refl _)];simp
  rw[zfx]
  by_cases e:zaB a w=x.fr
  ·rw[if_pos e]
   obtain⟨j,hj,rfl⟩:=List.getElem_of_mem hl
   have:=h.t a.length j (by simp) hj (by simp at hj;omega)
   rwa [hxa]at this
  ·rw[if_neg e]
   rcases List.mem_append.1 hl with hl|hl
   ·exact ih l hl
   ·rw[List.mem_singleton.1 hl];exact fun h=>e h.symm
theorem zrg {c:List zaR}(h:wfC c){i:Nat}(hi:i<c.length):zaB c c[i].fr=zaB c c[i].to:=by
 have hc:c=c.take i++c[i]::c.drop (i+1):=by rw[←List.drop_eq_getElem_cons hi,List.take_append_drop]
 have h1:zaB (c.take i) c[i].fr=c[i].fr:=zgv fun l hl=>by
  obtain⟨j,hj,rfl⟩:=List.getElem_of_mem hl
  rw[List.length_take]at hj
  rw[List.getElem_take]
  exact h.d i j hi (by omega) (by omega)
 have h2:zaB (c.take i++[c[i]]) c[i].to=c[i].to:=zgv fun l hl=>by
  rcases List.mem_append.1 hl with hl|hl
  ·obtain⟨j,hj,rfl⟩:=List.getElem_of_mem hl
   rw[List.length_take]at hj
   rw[List.getElem_take]
   exact h.t i j hi (by omega) (by omega)
  ·rw[List.mem_singleton.1 hl];exact h.t i i hi hi (Nat.le_refl _)
 have h3:zaB (c.take i++[c[i]]) c[i].fr=c[i].to:=by rw[zfx,h1,if_pos rfl]
 have e:c=(c.take i++[c[i]])++c.drop (i+1):=by rw[List.append_assoc];exact hc
 have k1:=zna (c.take i++[c[i]]) (c.drop (i+1)) c[i].fr
 have k2:=zna (c.take i++[c[i]]) (c.drop (i+1)) c[i].to
 rw[←e]at k1 k2
 rw[k1,k2,h2,h3]
def zjT (c:List zaR)(f:zac):List zaR:=
 if f.kind≠3 then c
 else if zaB c (f.words.getD 0 ⟨[]⟩)=zaB c (f.words.getD 1 ⟨[]⟩)then c
 else c++[⟨zaB c (f.words.getD 0 ⟨[]⟩),zaB c (f.words.getD 1 ⟨[]⟩)⟩]
def zeM (l:List zac):List zaR:=l.foldl zjT []
theorem zsp (l:List zac)(f:zac):zeM (l++[f])=zjT (zeM l) f:=by unfold zeM;rw[List.foldl_append];rfl
theorem zyV {c:List zaR}(h:wfC c)(f:zac):wfC (zjT c f):=by
 unfold zjT
 split
 ·exact h
 ·split
  ·exact h
  ·rename_i h1
   exact zwR h (zg8 _ c rfl h _) (zg8 _ c rfl h _) h1
theorem zv8 (c:List zaR)(f:zac):(zjT c f).length≤c.length+1:=by
 unfold zjT
 split
 ·omega
 ·split
  ·omega
  ·simp
theorem zw7 (l:List zac):wfC (zeM l)∧(zeM l).length≤l.length:=by
 unfold zeM
 suffices h:∀(l:List zac) (c:List zaR),wfC c→wfC (l.foldl zjT c)∧(l.foldl zjT c).length≤c.length+l.length by
  have:=h l [] ⟨fun i j hi=>by simp at hi,fun i j hi=>by simp at hi⟩
  simpa using this
 intro l
 induction l with
 |nil=>intro c h;exact⟨h,by simp⟩
 |cons f l ih=>
  intro c h
  rw[List.foldl_cons]
  obtain⟨h1,h2⟩:=ih _ (zyV h f)
  have:=zv8 c f
  exact⟨h1,by rw[List.length_cons];omega⟩
def zci (c:List zaR)(f g:zac):Bool:=decide (f.kind=2)&&decide (g.kind=2)&&decide (f.name=g.name)&&decide (f.words.map (zaB c)=g.words.map (zaB c))
def zhG (c:List zaR)(f:zac):Bool:=decide (f.kind=4)&&(decide ((zbo f).kind=1)||decide ((zbo f).kind=3)&&decide (zaB c ((zbo f).words.getD 0 ⟨[]⟩)=zaB c ((zbo f).words.getD 1 ⟨[]⟩)))
end Go.Abs
