/- several texts of this proof in one; no conditions -/
import Derived.Test.YtkkffhphodngkaaGreatDoorY16
import Derived.Test.YtkkffhphodngkaaGreatDoorVS
import Derived.Test.YtkkffhphodngkaaGreatDoorVP
set_option linter.unusedSimpArgs false
namespace Go.Abs
open Go
inductive Prf where
 |mk (kind form other:Int) (name:Str) (subs:List Prf)
namespace Prf
def kind:Prf→Int|mk k _ _ _ _=>k
def form:Prf→Int|mk _ f _ _ _=>f
def other:Prf→Int|mk _ _ o _ _=>o
def name:Prf→Str|mk _ _ _ n _=>n
def subs:Prf→List Prf|mk _ _ _ _ s=>s
end Prf
@[go_sem] theorem zeH {k f o n s}:(Prf.mk k f o n s).kind=k:=rfl
@[go_sem] theorem zeG {k f o n s}:(Prf.mk k f o n s).form=f:=rfl
@[go_sem] theorem zdK {k f o n s}:(Prf.mk k f o n s).other=o:=rfl
@[go_sem] theorem zll {k f o n s}:(Prf.mk k f o n s).name=n:=rfl
@[go_sem] theorem zeI {k f o n s}:(Prf.mk k f o n s).subs=s:=rfl
@[go_sem] theorem zaz {p:Prf}:Prf.mk p.kind p.form p.other p.name p.subs=p:=by cases p;rfl
mutual
def zBd:Prf→FD
 | .mk k f o n s=> .agg [.i .i64 k,.i .i64 f,.i .i64 o,.s n.l,.sl (zrE s)]
def zrE:List Prf→List FD
 |[]=>[]
 |f::fs=>zBd f::zrE fs
end
mutual
def zjh:FD→Prf
 | .agg [.i _ k,.i _ f,.i _ o,.s n,.sl s]=> .mk k f o ⟨n⟩ (zrx s)
 |_=> .mk 0 0 0 ⟨[]⟩ []
def zrx:List FD→List Prf
 |[]=>[]
 |x::xs=>zjh x::zrx xs
end
mutual
theorem zmx:∀f,zjh (zBd f)=f
 | .mk k f o n s=>by simp only[zBd,zjh,zip s]
theorem zip:∀s,zrx (zrE s)=s
 |[]=>rfl
 |f::fs=>by simp only[zrE,zrx,zmx f,zip fs]
end
instance:Enc Prf:=⟨zBd,zjh,zmx⟩
theorem zmF:∀s:List Prf,zrE s=s.map enc
 |[]=>rfl
 |f::fs=>by rw[zrE,zmF fs];rfl
theorem zmy:∀s:List FD,zrx s=dec (α:=List Prf) (.sl s)
 |[]=>rfl
 |f::fs=>by rw[zrx,zmy fs];rfl
@[go_sem] theorem zaR {p:Prf}:enc p= .agg [.i .i64 p.kind,.i .i64 p.form,.i .i64 p.other,.s p.name.l,.sl (p.subs.map enc)]:=by
 cases p with
 |mk k f o n s=>show zBd _=_;rw[zBd,zmF];rfl
@[go_sem] theorem zGb {i j h k f o n s}:dec (α:=Prf) (.agg [.i i k,.i j f,.i h o,.s n,.sl s])= .mk k f o ⟨n⟩ (dec (.sl s)):=by
 show zjh _=_;rw[zjh,zmy]
instance:Kc Prf 5:=⟨fun f=>by rw[zaR];rfl⟩
@[go_sem] theorem zDv {l:List Prf}:zbx (l.map enc) 5=True:=eq_true (zdf l)
@[go_sem] theorem zBk {l:List Prf}:(zad (l.map enc)).all zcN=true:=by
 rw[List.all_eq_true]
 intro d hd
 simp only[zad,List.mem_flatMap,List.mem_map]at hd
 obtain⟨_,⟨a,_,rfl⟩,x,hx,rfl⟩:=hd
 simp only[zaR,FD.cells,List.mem_cons,List.not_mem_nil,or_false]at hx
 rcases hx with rfl|rfl|rfl|rfl|rfl<;>rfl
mutual
def Prf.size:Prf→Nat
 | .mk _ _ _ _ s=>Prf.sizes s+1
def Prf.sizes:List Prf→Nat
 |[]=>0
 |f::fs=>f.size+Prf.sizes fs
end
theorem Prf.size_mem:∀{l:List Prf} {f:Prf},f∈l→f.size≤Prf.sizes l
 |g::l,f,h=>by
  rw[Prf.sizes]
  rcases List.mem_cons.1 h with rfl|h
  ·omega
  ·have:=Prf.size_mem h;omega
theorem Prf.size_sub {f g:Prf}(h:g∈f.subs):g.size<f.size:=by
 cases f with
 |mk k f o n w=>rw[Prf.size];have:=Prf.size_mem (show g∈w from h);omega
mutual
def zwx:Prf→Int→Int
 | .mk _ _ _ _ s,n=>zjl s (n+1)
def zjl:List Prf→Int→Int
 |[],n=>n
 |x::xs,n=>if 2000<n then n else zjl xs (zwx x n)
end
mutual
theorem zzC:∀(p:Prf) (n:Int),n≤2000→n+1≤zwx p n∧zwx p n≤2001
 | .mk k f o nm s,n,h=>by
  rw[zwx]
  have:=zpS s (n+1) (by omega)
  omega
theorem zpS:∀(s:List Prf) (n:Int),n≤2001→n≤zjl s n∧zjl s n≤2001
 |[],n,h=>by rw[zjl];omega
 |x::xs,n,h=>by
  rw[zjl]
  split
  ·omega
  ·have h1:=zzC x n (by omega)
   have h2:=zpS xs (zwx x n) h1.2
   omega
end
end Go.Abs
namespace Go.Abs
open Go
def cnn (f:zab):zab:=zaD f []
def ngg (f:zab):zab:=zaD (zbD f) []
def zbJ (f:zab):zab:=f.subs.getD 0 (.mk 0 ⟨[]⟩ [] [])
def zvm (f:zab):zab:=f.subs.getD 1 (.mk 0 ⟨[]⟩ [] [])
def zaf (f:zab):Int×List zab×zab×Bool:=
 if f.kind=5 then(1,[cnn (zbJ f),cnn (zvm f)],za2,false)
 else if f.kind=6 then(2,[cnn (zbJ f),cnn (zvm f)],za2,false)
 else if f.kind=7 then(2,[ngg (zbJ f),cnn (zvm f)],za2,false)
 else if f.kind=8 then(3,[],f,false)
 else if f.kind=9 then(4,[],f,false)
 else if f.kind=4 then
  if(zbJ f).kind=4 then(1,[cnn (zbJ (zbJ f))],za2,false)
  else if(zbJ f).kind=5 then(2,[ngg (zbJ (zbJ f)),ngg (zvm (zbJ f))],za2,false)
  else if(zbJ f).kind=6 then(1,[ngg (zbJ (zbJ f)),ngg (zvm (zbJ f))],za2,false)
  else if(zbJ f).kind=7 then(1,[cnn (zbJ (zbJ f)),ngg (zvm (zbJ f))],za2,false)
  else if(zbJ f).kind=8 then(4,[],zbJ f,true)
  else if(zbJ f).kind=9 then(3,[],zbJ f,true)
  else(0,[],za2,false)
 else(0,[],za2,false)
structure brF (f:zab):Prop where
 v:vok f
 ft:f.fit=true
 s:f.size≤800
theorem brF.sub {f g:zab}(h:brF f)(hg:g∈f.subs):brF g:=by
 have hv:=h.v
 obtain⟨k,nm,ws,s⟩:=f
 rw[vok]at hv
 have hf:=h.ft
 rw[zab.fit]at hf
 simp only[Bool.and_eq_true]at hf
 exact⟨(zfC s).1 hv.2.2.2.2.2.2 g hg,zab.fits_mem hf.2 hg,by have:=zab.size_sub hg;have:=h.s;omega⟩
theorem zcr {f:zab}(h:brF f)(hk:f.kind=4∨f.kind=8∨f.kind=9):∃a,f.subs=[a]∧zbJ f=a∧brF a:=by
 have h1:=(zbM.1 h.v).2.2.2.2.1 hk
 match hs:f.subs,h1 with
 |[a],_=>exact⟨a,rfl,by unfold zbJ;rw[hs];rfl,h.sub (by rw[hs];simp)⟩
theorem zcM {f:zab}(h:brF f)(hk:f.kind=5∨f.kind=6∨f.kind=7):∃a b,f.subs=[a,b]∧zbJ f=a∧zvm f=b∧brF a∧brF b:=by
 have h1:=(zbM.1 h.v).2.2.2.2.2.1 hk
 match hs:f.subs,h1 with
 |[a,b],_=>exact⟨a,b,rfl,by unfold zbJ;rw[hs];rfl,by unfold zvm;rw[hs];rfl,h.sub (by rw[hs];simp),h.sub (by rw[hs];simp)⟩
def zaM (c:List za3)(w:Str):Str:=c.foldl (fun r l=>if r=l.fr then l.to else r) w
structure wfC (c:List za3):Prop where
 d:∀i j (hi:i<c.length) (hj:j<c.length),j<i→c[j].fr≠c[i].fr
 t:∀i j (hi:i<c.length) (hj:j<c.length),j≤i→c[j].fr≠c[i].to
theorem zcX (c:List za3)(l:za3)(w:Str):zaM (c++[l]) w=if zaM c w=l.fr then l.to else zaM c w:=by
 unfold zaM;rw[List.foldl_append];rfl
theorem znH (a b:List za3)(w:Str):zaM (a++b) w=zaM b (zaM a w):=by unfold zaM;rw[List.foldl_append]
theorem zgw:∀{c:List za3} {w:Str},(∀l∈c,l.fr≠w)→zaM c w=w
 |[],w,_=>rfl
 |l::c,w,h=>by
  have h1:¬w=l.fr:=fun e=>h l (by simp) e.symm
  show zaM c (if w=l.fr then l.to else w)=w
  rw[if_neg h1,zgw fun x hx=>h x (by simp[hx])]
theorem zA1 {a b:List za3}(h:wfC (a++b)):wfC a:=by
 refine⟨fun i j hi hj hij=>?_,fun i j hi hj hij=>?_⟩
 ·have:=h.d i j (by rw[List.length_append];omega) (by rw[List.length_append];omega) hij
  rwa [List.getElem_append_left hj,List.getElem_append_left hi]at this
 ·have:=h.t i j (by rw[List.length_append];omega) (by rw[List.length_append];omega) hij
  rwa [List.getElem_append_left hj,List.getElem_append_left hi]at this
theorem zym {c:List za3}{l:za3}(h:wfC c)(h1:∀x∈c,x.fr≠l.fr)(h2:∀x∈c,x.fr≠l.to)(h3:l.fr≠l.to):wfC (c++[l]):=by
 have hl:(c++[l]).length=c.length+1:=by simp
 refine⟨fun i j hi hj hij=>?_,fun i j hi hj hij=>?_⟩
 ·rw[hl]at hi
  have hj2:j<c.length:=by omega
  rw[List.getElem_append_left hj2]
  rcases Nat.lt_or_ge i c.length with h4|h4
  ·rw[List.getElem_append_left h4];exact h.d i j h4 hj2 hij
  ·have:i=c.length:=by omega
   subst this
   rw[List.getElem_append_right (Nat.le_refl _)]
   simpa using h1 _ (List.getElem_mem hj2)
 ·rw[hl]at hi
  rcases Nat.lt_or_ge i c.length with h4|h4
  ·have hj2:j<c.length:=by omega
   rw[List.getElem_append_left hj2,List.getElem_append_left h4];exact h.t i j h4 hj2 hij
  ·have:i=c.length:=by omega
   subst this
   rw[List.getElem_append_right (Nat.le_refl _)]
   rcases Nat.lt_or_ge j c.length with h5|h5
   ·rw[List.getElem_append_left h5]
    simpa using h2 _ (List.getElem_mem h5)
   ·have:j=c.length:=by rw[hl]at hj;omega
    subst this
    rw[List.getElem_append_right (Nat.le_refl _)]
    simpa using h3
theorem ziE {α:Type}:∀(l:List α),l=[]∨∃a x,l=a++[x]
 |[]=> .inl rfl
 |x::l=> .inr (by
  rcases ziE l with rfl|⟨a,y,rfl⟩
  ·exact⟨[],x,rfl⟩
  ·exact⟨x::a,y,rfl⟩)
theorem zg4:∀(n:Nat) (c:List za3),c.length=n→wfC c→∀w,∀l∈c,l.fr≠zaM c w
 |0,c,hn,_,w,l,hl=>by rw[List.eq_nil_of_length_eq_zero hn]at hl;simp at hl
 |n+1,c,hn,h,w,l,hl=>by
  rcases ziE c with rfl|⟨a,x,rfl⟩
  ·simp at hn
  have hla:a.length=n:=by simpa using hn
  have ih:=zg4 n a hla (zA1 h) w
  have hxa:(a++[x])[a.length]'(by simp)=x:=by rw[List.getElem_append_right (Nat.le_refl _)];simp
  rw[zcX]
  by_cases e:zaM a w=x.fr
  ·rw[if_pos e]
   obtain⟨j,hj,rfl⟩:=List.getElem_of_mem hl
   have:=h.t a.length j (by simp) hj (by simp at hj;omega)
   rwa [hxa]at this
  ·rw[if_neg e]
   rcases List.mem_append.1 hl with hl|hl
   ·exact ih l hl
   ·rw[List.mem_singleton.1 hl];exact fun h=>e h.symm
theorem zsp {c:List za3}(h:wfC c){i:Nat}(hi:i<c.length):zaM c c[i].fr=zaM c c[i].to:=by
 have hc:c=c.take i++c[i]::c.drop (i+1):=by rw[←List.drop_eq_getElem_cons hi,List.take_append_drop]
 have h1:zaM (c.take i) c[i].fr=c[i].fr:=zgw fun l hl=>by
  obtain⟨j,hj,rfl⟩:=List.getElem_of_mem hl
  rw[List.length_take]at hj
  rw[List.getElem_take]
  exact h.d i j hi (by omega) (by omega)
 have h2:zaM (c.take i++[c[i]]) c[i].to=c[i].to:=zgw fun l hl=>by
  rcases List.mem_append.1 hl with hl|hl
  ·obtain⟨j,hj,rfl⟩:=List.getElem_of_mem hl
   rw[List.length_take]at hj
   rw[List.getElem_take]
   exact h.t i j hi (by omega) (by omega)
  ·rw[List.mem_singleton.1 hl];exact h.t i i hi hi (Nat.le_refl _)
 have h3:zaM (c.take i++[c[i]]) c[i].fr=c[i].to:=by rw[zcX,h1,if_pos rfl]
 have e:c=(c.take i++[c[i]])++c.drop (i+1):=by rw[List.append_assoc];exact hc
 have k1:=znH (c.take i++[c[i]]) (c.drop (i+1)) c[i].fr
 have k2:=znH (c.take i++[c[i]]) (c.drop (i+1)) c[i].to
 rw[←e]at k1 k2
 rw[k1,k2,h2,h3]
def zjs (c:List za3)(f:zab):List za3:=
 if f.kind≠3 then c
 else if zaM c (f.words.getD 0 ⟨[]⟩)=zaM c (f.words.getD 1 ⟨[]⟩)then c
 else c++[⟨zaM c (f.words.getD 0 ⟨[]⟩),zaM c (f.words.getD 1 ⟨[]⟩)⟩]
def zfE (l:List zab):List za3:=l.foldl zjs []
theorem ztw (l:List zab)(f:zab):zfE (l++[f])=zjs (zfE l) f:=by unfold zfE;rw[List.foldl_append];rfl
theorem zAu {c:List za3}(h:wfC c)(f:zab):wfC (zjs c f):=by
 unfold zjs
 split
 ·exact h
 ·split
  ·exact h
  ·rename_i h1
   exact zym h (zg4 _ c rfl h _) (zg4 _ c rfl h _) h1
theorem zxr (c:List za3)(f:zab):(zjs c f).length≤c.length+1:=by
 unfold zjs
 split
 ·omega
 ·split
  ·omega
  ·simp
theorem zyB (l:List zab):wfC (zfE l)∧(zfE l).length≤l.length:=by
 unfold zfE
 suffices h:∀(l:List zab) (c:List za3),wfC c→wfC (l.foldl zjs c)∧(l.foldl zjs c).length≤c.length+l.length by
  have:=h l [] ⟨fun i j hi=>by simp at hi,fun i j hi=>by simp at hi⟩
  simpa using this
 intro l
 induction l with
 |nil=>intro c h;exact⟨h,by simp⟩
 |cons f l ih=>
  intro c h
  rw[List.foldl_cons]
  obtain⟨h1,h2⟩:=ih _ (zAu h f)
  have:=zxr c f
  exact⟨h1,by rw[List.length_cons];omega⟩
def zeu (c:List za3)(f g:zab):Bool:=decide (f.kind=2)&&decide (g.kind=2)&&decide (f.name=g.name)&&decide (f.words.map (zaM c)=g.words.map (zaM c))
def zlU (c:List za3)(f:zab):Bool:=decide (f.kind=4)&&(decide ((zbJ f).kind=1)||decide ((zbJ f).kind=3)&&decide (zaM c ((zbJ f).words.getD 0 ⟨[]⟩)=zaM c ((zbJ f).words.getD 1 ⟨[]⟩)))
end Go.Abs
namespace Go.Abs
open Go
def zjj (f:zab)(name:Str):zab:=zaD (zbJ f) [⟨f.name,name⟩]
def zb6 (q:zab)(turned:Bool)(name:Str):zab:=if turned then ngg (zjj q name)else zjj q name
def zAz (l:List zab)(name:Str):Bool:=l.any fun f=>decide (name∈zaP f)
def zvn (f:zab)(nm:Str):Str:=if f.words.getD 0 ⟨[]⟩=nm then f.words.getD 1 ⟨[]⟩else f.words.getD 0 ⟨[]⟩
def inL (l:List zab)(i:Int):Bool:=decide (0≤i)&&decide (i<l.length)
def atL (l:List zab)(i:Int):zab:=l.getD i.toNat za2
def zpL (l:List zab)(f g:zab):Bool:=decide (ngg f=g)||decide (g.kind=4)&&zeu (zfE l) f (zbJ g)
def zwv (k fo ot:Int)(nm:Str)(cs:List (List zab→Bool))(l:List zab):Bool:=
 if inL l fo=false then false
 else if k=1 then decide (cs.length=0)&&inL l ot&&(if ot=fo then zlU (zfE l) (atL l fo)else zpL l (atL l fo) (atL l ot))
 else if k=2 then decide ((zaf (atL l fo)).1=1)&&decide (cs.length=1)&&cs.getD 0 (fun _=>false) (l++(zaf (atL l fo)).2.1)
 else if k=3 then decide ((zaf (atL l fo)).1=2)&&decide (cs.length=2)&&cs.getD 0 (fun _=>false) (l++[(zaf (atL l fo)).2.1.getD 0 za2])&&cs.getD 1 (fun _=>false) (l++[(zaf (atL l fo)).2.1.getD 1 za2])
 else if k=4 then decide ((zaf (atL l fo)).1=3)&&zat nm&&decide (cs.length=1)&&cs.getD 0 (fun _=>false) (l++[zb6 (zaf (atL l fo)).2.2.1 (zaf (atL l fo)).2.2.2 nm])
 else if k=5 then decide ((zaf (atL l fo)).1=4)&&zat nm&& !zAz l nm&&decide (cs.length=1)&&cs.getD 0 (fun _=>false) (l++[zb6 (zaf (atL l fo)).2.2.1 (zaf (atL l fo)).2.2.2 nm])
 else if k=6 then decide ((atL l fo).kind=3)&&inL l ot&&decide (cs.length=1)&&decide (nm∈(atL l fo).words)&&cs.getD 0 (fun _=>false) (l++[zaD (atL l ot) [⟨nm,zvn (atL l fo) nm⟩]])
 else false
mutual
def zii:Prf→List zab→Bool
 | .mk k fo ot nm s,l=>zwv k fo ot nm (zwu s) l
def zwu:List Prf→List (List zab→Bool)
 |[]=>[]
 |p::ps=>zii p::zwu ps
end
theorem zmg:∀l:List Prf,zwu l=l.map zii
 |[]=>rfl
 |p::l=>by rw[zwu,zmg l];rfl
theorem zfP (p:Prf)(l:List zab):zii p l=zwv p.kind p.form p.other p.name (p.subs.map zii) l:=by cases p;rw[zii,zmg];rfl
theorem brF.cn {f:zab}(h:brF f){env:List za3}:brF (zaD f env):=⟨zid h.v,by rw[zgK];exact h.ft,by rw[zcl];exact h.s⟩
theorem brF.ng {f:zab}(h:brF f)(hs:f.size+1≤800):brF (ngg f):=by
 unfold ngg
 refine⟨zid ?_,?_,?_⟩
 ·unfold zbD
  rw[vok,zhA,zhA]
  exact⟨by decide,by decide,fun e=>absurd e (by decide),fun e=>absurd e (by decide),fun _=>rfl,fun e=>by omega,h.v,trivial⟩
 ·rw[zgK];simp[zbD,zab.fit,zab.fits,h.ft]
 ·rw[zcl];simp only[zbD,zab.size,zab.sizes];omega
theorem zeL {f a:zab}(h:f.subs=[a]):f.size=a.size+1:=by
 cases f with
 |mk k nm ws s=>rw[zaK]at h;subst h;rw[zab.size,zab.sizes,zab.sizes]
theorem zcj {f a b:zab}(h:f.subs=[a,b]):f.size=a.size+b.size+1:=by
 cases f with
 |mk k nm ws s=>rw[zaK]at h;subst h;rw[zab.size,zab.sizes,zab.sizes,zab.sizes];rfl
theorem zfz {f:zab}(h:brF f):(∀g∈(zaf f).2.1,brF g)∧((zaf f).1=2→(zaf f).2.1.length=2)∧(zaf f).2.1.length≤2∧
  (((zaf f).1=3∨(zaf f).1=4)→∃a,(zaf f).2.2.1.subs=[a]∧brF a∧a.size+1≤800):=by
 have hs:=h.s
 by_cases k5:f.kind=5
 ·obtain⟨a,b,hab,s0,s1,ha,hb⟩:=zcM h (by omega)
  have hz:=zcj hab
  have hpa:=a.size_pos
  have hpb:=b.size_pos
  have e:zaf f=(1,[cnn a,cnn b],za2,false):=by
   unfold zaf
   rw[s0,s1,k5];rfl
  rw[e]
  refine⟨fun x hx=>?_,fun e=>by simp at e,Nat.le_refl _,fun e=>by simp at e⟩
  simp only[List.mem_cons,List.not_mem_nil,or_false]at hx
  rcases hx with rfl|rfl
  ·exact ha.cn
  ·exact hb.cn
 by_cases k6:f.kind=6
 ·obtain⟨a,b,hab,s0,s1,ha,hb⟩:=zcM h (by omega)
  have hz:=zcj hab
  have hpa:=a.size_pos
  have hpb:=b.size_pos
  have e:zaf f=(2,[cnn a,cnn b],za2,false):=by
   unfold zaf
   rw[s0,s1,k6];rfl
  rw[e]
  refine⟨fun x hx=>?_,fun _=>rfl,Nat.le_refl _,fun e=>by simp at e⟩
  simp only[List.mem_cons,List.not_mem_nil,or_false]at hx
  rcases hx with rfl|rfl
  ·exact ha.cn
  ·exact hb.cn
 by_cases k7:f.kind=7
 ·obtain⟨a,b,hab,s0,s1,ha,hb⟩:=zcM h (by omega)
  have hz:=zcj hab
  have hpa:=a.size_pos
  have hpb:=b.size_pos
  have e:zaf f=(2,[ngg a,cnn b],za2,false):=by
   unfold zaf
   rw[s0,s1,k7];rfl
  rw[e]
  refine⟨fun x hx=>?_,fun _=>rfl,Nat.le_refl _,fun e=>by simp at e⟩
  simp only[List.mem_cons,List.not_mem_nil,or_false]at hx
  rcases hx with rfl|rfl
  ·exact ha.ng (by omega)
  ·exact hb.cn
 by_cases k8:f.kind=8
 ·obtain⟨a,ha,s0,hb⟩:=zcr h (by omega)
  have hz:=zeL ha
  have e:zaf f=(3,[],f,false):=by
   unfold zaf
   rw[k8];rfl
  rw[e]
  exact⟨fun x hx=>by simp at hx,fun e=>by simp at e,Nat.zero_le _,fun _=>⟨a,ha,hb,by omega⟩⟩
 by_cases k9:f.kind=9
 ·obtain⟨a,ha,s0,hb⟩:=zcr h (by omega)
  have hz:=zeL ha
  have e:zaf f=(4,[],f,false):=by
   unfold zaf
   rw[k9];rfl
  rw[e]
  exact⟨fun x hx=>by simp at hx,fun e=>by simp at e,Nat.zero_le _,fun _=>⟨a,ha,hb,by omega⟩⟩
 by_cases k4:f.kind=4
 ·obtain⟨g,hg,s0,hbg⟩:=zcr h (.inl k4)
  have hzg:=zeL hg
  by_cases j4:g.kind=4
  ·obtain⟨a,ha,t0,hb⟩:=zcr hbg (.inl j4)
   have e:zaf f=(1,[cnn a],za2,false):=by
    unfold zaf
    rw[s0,t0,k4,j4];rfl
   rw[e]
   refine⟨fun x hx=>?_,fun e=>by simp at e,by simp,fun e=>by simp at e⟩
   rw[List.mem_singleton.1 hx];exact hb.cn
  by_cases j5:g.kind=5
  ·obtain⟨a,b,hab,t0,t1,ha,hb⟩:=zcM hbg (by omega)
   have hz:=zcj hab
   have hpa:=a.size_pos
   have hpb:=b.size_pos
   have e:zaf f=(2,[ngg a,ngg b],za2,false):=by
    unfold zaf
    rw[s0,t0,t1,k4,j5];rfl
   rw[e]
   refine⟨fun x hx=>?_,fun _=>rfl,Nat.le_refl _,fun e=>by simp at e⟩
   simp only[List.mem_cons,List.not_mem_nil,or_false]at hx
   rcases hx with rfl|rfl
   ·exact ha.ng (by omega)
   ·exact hb.ng (by omega)
  by_cases j6:g.kind=6
  ·obtain⟨a,b,hab,t0,t1,ha,hb⟩:=zcM hbg (by omega)
   have hz:=zcj hab
   have hpa:=a.size_pos
   have hpb:=b.size_pos
   have e:zaf f=(1,[ngg a,ngg b],za2,false):=by
    unfold zaf
    rw[s0,t0,t1,k4,j6];rfl
   rw[e]
   refine⟨fun x hx=>?_,fun e=>by simp at e,Nat.le_refl _,fun e=>by simp at e⟩
   simp only[List.mem_cons,List.not_mem_nil,or_false]at hx
   rcases hx with rfl|rfl
   ·exact ha.ng (by omega)
   ·exact hb.ng (by omega)
  by_cases j7:g.kind=7
  ·obtain⟨a,b,hab,t0,t1,ha,hb⟩:=zcM hbg (by omega)
   have hz:=zcj hab
   have hpa:=a.size_pos
   have hpb:=b.size_pos
   have e:zaf f=(1,[cnn a,ngg b],za2,false):=by
    unfold zaf
    rw[s0,t0,t1,k4,j7];rfl
   rw[e]
   refine⟨fun x hx=>?_,fun e=>by simp at e,Nat.le_refl _,fun e=>by simp at e⟩
   simp only[List.mem_cons,List.not_mem_nil,or_false]at hx
   rcases hx with rfl|rfl
   ·exact ha.cn
   ·exact hb.ng (by omega)
  by_cases j8:g.kind=8
  ·obtain⟨a,ha,t0,hb⟩:=zcr hbg (by omega)
   have hz:=zeL ha
   have e:zaf f=(4,[],g,true):=by
    unfold zaf
    rw[s0,k4,j8];rfl
   rw[e]
   exact⟨fun x hx=>by simp at hx,fun e=>by simp at e,Nat.zero_le _,fun _=>⟨a,ha,hb,by omega⟩⟩
  by_cases j9:g.kind=9
  ·obtain⟨a,ha,t0,hb⟩:=zcr hbg (by omega)
   have hz:=zeL ha
   have e:zaf f=(3,[],g,true):=by
    unfold zaf
    rw[s0,k4,j9];rfl
   rw[e]
   exact⟨fun x hx=>by simp at hx,fun e=>by simp at e,Nat.zero_le _,fun _=>⟨a,ha,hb,by omega⟩⟩
  have e:zaf f=(0,[],za2,false):=by
   unfold zaf
   rw[s0,k4]
   simp only[j4,j5,j6,j7,j8,j9,if_false]
   rfl
  rw[e]
  exact⟨fun x hx=>by simp at hx,fun e=>by simp at e,Nat.zero_le _,fun e=>by simp at e⟩
 have e:zaf f=(0,[],za2,false):=by
  unfold zaf
  simp only[k4,k5,k6,k7,k8,k9,if_false]
 rw[e]
 exact⟨fun x hx=>by simp at hx,fun e=>by simp at e,Nat.zero_le _,fun e=>by simp at e⟩
theorem zk8 {q a:zab}{t:Bool}{nm:Str}(hq:q.subs=[a])(ha:brF a)(hs:a.size+1≤800):brF (zb6 q t nm):=by
 have e:zjj q nm=zaD a [⟨q.name,nm⟩]:=by unfold zjj zbJ;rw[hq];rfl
 unfold zb6
 rw[e]
 cases t with
 |false=>exact ha.cn
 |true=>exact(ha.cn).ng (by rw[zcl];omega)
end Go.Abs
