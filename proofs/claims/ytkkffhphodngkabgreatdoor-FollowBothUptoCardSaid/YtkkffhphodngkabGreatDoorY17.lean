/- several texts of this proof in one; no conditions -/
import Derived.Test.YtkkffhphodngkabGreatDoorY16
import Derived.Test.YtkkffhphodngkabGreatDoorVS
import Derived.Test.YtkkffhphodngkabGreatDoorVP
set_option linter.unusedSimpArgs false
namespace Go.Abs
open Go
inductive Prf where
 |mk (kind form other:Int) (name:Str) (subs:List Prf)
namespace Prf
def kind:Prf→Int|mk k _ _ _ _=>k
def form:Prf→Int|mk _ f _ _ _=>f
def other:Prf→Int|mk _ _ o _ _=>o
def name:Prf→Str|mk _ _ _ n _=>n
def subs:Prf→List Prf|mk _ _ _ _ s=>s
end Prf
@[go_sem] theorem zeW {k f o n s}:(Prf.mk k f o n s).kind=k:=rfl
@[go_sem] theorem zeV {k f o n s}:(Prf.mk k f o n s).form=f:=rfl
@[go_sem] theorem zdT {k f o n s}:(Prf.mk k f o n s).other=o:=rfl
@[go_sem] theorem zlV {k f o n s}:(Prf.mk k f o n s).name=n:=rfl
@[go_sem] theorem zeX {k f o n s}:(Prf.mk k f o n s).subs=s:=rfl
@[go_sem] theorem zal {p:Prf}:Prf.mk p.kind p.form p.other p.name p.subs=p:=by cases p;rfl
mutual
def zCf:Prf→FD
 | .mk k f o n s=> .agg [.i .i64 k,.i .i64 f,.i .i64 o,.s n.l,.sl (zsm s)]
def zsm:List Prf→List FD
 |[]=>[]
 |f::fs=>zCf f::zsm fs
end
mutual
def zjP:FD→Prf
 | .agg [.i _ k,.i _ f,.i _ o,.s n,.sl s]=> .mk k f o ⟨n⟩ (zsf s)
 |_=> .mk 0 0 0 ⟨[]⟩ []
def zsf:List FD→List Prf
 |[]=>[]
 |x::xs=>zjP x::zsf xs
end
mutual
theorem zm8:∀f,zjP (zCf f)=f
 | .mk k f o n s=>by simp only[zCf,zjP,ziW s]
theorem ziW:∀s,zsf (zsm s)=s
 |[]=>rfl
 |f::fs=>by simp only[zsm,zsf,zm8 f,ziW fs]
end
instance:Enc Prf:=⟨zCf,zjP,zm8⟩
theorem zng:∀s:List Prf,zsm s=s.map enc
 |[]=>rfl
 |f::fs=>by rw[zsm,zng fs];rfl
theorem zm9:∀s:List FD,zsf s=dec (α:=List Prf) (.sl s)
 |[]=>rfl
 |f::fs=>by rw[zsf,zm9 fs];rfl
@[go_sem] theorem zaS {p:Prf}:enc p= .agg [.i .i64 p.kind,.i .i64 p.form,.i .i64 p.other,.s p.name.l,.sl (p.subs.map enc)]:=by
 cases p with
 |mk k f o n s=>show zCf _=_;rw[zCf,zng];rfl
@[go_sem] theorem zHE {i j h k f o n s}:dec (α:=Prf) (.agg [.i i k,.i j f,.i h o,.s n,.sl s])= .mk k f o ⟨n⟩ (dec (.sl s)):=by
 show zjP _=_;rw[zjP,zm9]
instance:Kc Prf 5:=⟨fun f=>by rw[zaS];rfl⟩
@[go_sem] theorem zEv {l:List Prf}:zbE (l.map enc) 5=True:=eq_true (zdm l)
@[go_sem] theorem zCm {l:List Prf}:(zaf (l.map enc)).all zc0=true:=by
 rw[List.all_eq_true]
 intro d hd
 simp only[zaf,List.mem_flatMap,List.mem_map]at hd
 obtain⟨_,⟨a,_,rfl⟩,x,hx,rfl⟩:=hd
 simp only[zaS,FD.cells,List.mem_cons,List.not_mem_nil,or_false]at hx
 rcases hx with rfl|rfl|rfl|rfl|rfl<;>rfl
mutual
def Prf.size:Prf→Nat
 | .mk _ _ _ _ s=>Prf.sizes s+1
def Prf.sizes:List Prf→Nat
 |[]=>0
 |f::fs=>f.size+Prf.sizes fs
end
theorem Prf.size_mem:∀{l:List Prf} {f:Prf},f∈l→f.size≤Prf.sizes l
 |g::l,f,h=>by
  rw[Prf.sizes]
  rcases List.mem_cons.1 h with rfl|h
  ·omega
  ·have:=Prf.size_mem h;omega
theorem Prf.size_sub {f g:Prf}(h:g∈f.subs):g.size<f.size:=by
 cases f with
 |mk k f o n w=>rw[Prf.size];have:=Prf.size_mem (show g∈w from h);omega
mutual
def zmw:Prf→Int→Int
 | .mk _ _ _ _ s,n=>zb4 s (n+1)
def zb4:List Prf→Int→Int
 |[],n=>n
 |x::xs,n=>if 2000<n then n else zb4 xs (zmw x n)
end
theorem zAI (p:Prf)(n:Int):zmw p n=zb4 p.subs (n+1):=by cases p;rw[zmw];rfl
mutual
theorem zla:∀(p:Prf) (n:Int),n≤2000→n+1≤zmw p n∧zmw p n≤2001
 | .mk k f o nm s,n,h=>by
  rw[zmw]
  have:=zqC s (n+1) (by omega)
  omega
theorem zqC:∀(s:List Prf) (n:Int),n≤2001→n≤zb4 s n∧zb4 s n≤2001
 |[],n,h=>by rw[zb4];omega
 |x::xs,n,h=>by
  rw[zb4]
  split
  ·omega
  ·have h1:=zla x n (by omega)
   have h2:=zqC xs (zmw x n) h1.2
   omega
end
theorem ziR:∀(a b:List Prf) (n:Int),zb4 (a++b) n=zb4 b (zb4 a n)
 |[],b,n=>by rw[List.nil_append,zb4]
 |x::a,b,n=>by
  rw[List.cons_append,zb4,zb4]
  split
  ·rename_i h
   cases b with
   |nil=>rw[zb4]
   |cons y b=>rw[zb4,if_pos h]
  ·rw[ziR a b]
end Go.Abs
namespace Go.Abs
open Go
def cnn (f:zac):zac:=zaC f []
def ngg (f:zac):zac:=zaC (zbx f) []
def zb6 (f:zac):zac:=f.subs.getD 0 (.mk 0 ⟨[]⟩ [] [])
def zzb (f:zac):zac:=f.subs.getD 1 (.mk 0 ⟨[]⟩ [] [])
def zah (f:zac):Int×List zac×zac×Bool:=
 if f.kind=5 then(1,[cnn (zb6 f),cnn (zzb f)],za7,false)
 else if f.kind=6 then(2,[cnn (zb6 f),cnn (zzb f)],za7,false)
 else if f.kind=7 then(2,[ngg (zb6 f),cnn (zzb f)],za7,false)
 else if f.kind=8 then(3,[],f,false)
 else if f.kind=9 then(4,[],f,false)
 else if f.kind=4 then
  if(zb6 f).kind=4 then(1,[cnn (zb6 (zb6 f))],za7,false)
  else if(zb6 f).kind=5 then(2,[ngg (zb6 (zb6 f)),ngg (zzb (zb6 f))],za7,false)
  else if(zb6 f).kind=6 then(1,[ngg (zb6 (zb6 f)),ngg (zzb (zb6 f))],za7,false)
  else if(zb6 f).kind=7 then(1,[cnn (zb6 (zb6 f)),ngg (zzb (zb6 f))],za7,false)
  else if(zb6 f).kind=8 then(4,[],zb6 f,true)
  else if(zb6 f).kind=9 then(3,[],zb6 f,true)
  else(0,[],za7,false)
 else(0,[],za7,false)
structure brF (f:zac):Prop where
 v:vok f
 ft:f.fit=true
 s:f.size≤800
theorem brF.sub {f g:zac}(h:brF f)(hg:g∈f.subs):brF g:=by
 have hv:=h.v
 obtain⟨k,nm,ws,s⟩:=f
 rw[vok]at hv
 have hf:=h.ft
 rw[zac.fit]at hf
 simp only[Bool.and_eq_true]at hf
 exact⟨(zg6 s).1 hv.2.2.2.2.2.2 g hg,zac.fits_mem hf.2 hg,by have:=zac.size_sub hg;have:=h.s;omega⟩
theorem zcr {f:zac}(h:brF f)(hk:f.kind=4∨f.kind=8∨f.kind=9):∃a,f.subs=[a]∧zb6 f=a∧brF a:=by
 have h1:=(zcl.1 h.v).2.2.2.2.1 hk
 match hs:f.subs,h1 with
 |[a],_=>exact⟨a,rfl,by unfold zb6;rw[hs];rfl,h.sub (by rw[hs];simp)⟩
theorem zcZ {f:zac}(h:brF f)(hk:f.kind=5∨f.kind=6∨f.kind=7):∃a b,f.subs=[a,b]∧zb6 f=a∧zzb f=b∧brF a∧brF b:=by
 have h1:=(zcl.1 h.v).2.2.2.2.2.1 hk
 match hs:f.subs,h1 with
 |[a,b],_=>exact⟨a,b,rfl,by unfold zb6;rw[hs];rfl,by unfold zzb;rw[hs];rfl,h.sub (by rw[hs];simp),h.sub (by rw[hs];simp)⟩
def zaX (c:List za4)(w:Str):Str:=c.foldl (fun r l=>if r=l.fr then l.to else r) w
structure wfC (c:List za4):Prop where
 d:∀i j (hi:i<c.length) (hj:j<c.length),j<i→c[j].fr≠c[i].fr
 t:∀i j (hi:i<c.length) (hj:j<c.length),j≤i→c[j].fr≠c[i].to
theorem zhB (c:List za4)(l:za4)(w:Str):zaX (c++[l]) w=if zaX c w=l.fr then l.to else zaX c w:=by
 unfold zaX;rw[List.foldl_append];rfl
theorem zoi (a b:List za4)(w:Str):zaX (a++b) w=zaX b (zaX a w):=by unfold zaX;rw[List.foldl_append]
theorem zgV:∀{c:List za4} {w:Str},(∀l∈c,l.fr≠w)→zaX c w=w
 |[],w,_=>rfl
 |l::c,w,h=>by
  have h1:¬w=l.fr:=fun e=>h l (by simp) e.symm
  show zaX c (if w=l.fr then l.to else w)=w
  rw[if_neg h1,zgV fun x hx=>h x (by simp[hx])]
theorem zB3 {a b:List za4}(h:wfC (a++b)):wfC a:=by
 refine⟨fun i j hi hj hij=>?_,fun i j hi hj hij=>?_⟩
 ·have:=h.d i j (by rw[List.length_append];omega) (by rw[List.length_append];omega) hij
  rwa [List.getElem_append_left hj,List.getElem_append_left hi]at this
 ·have:=h.t i j (by rw[List.length_append];omega) (by rw[List.length_append];omega) hij
  rwa [List.getElem_append_left hj,List.getElem_append_left hi]at this
theorem zzs {c:List za4}{l:za4}(h:wfC c)(h1:∀x∈c,x.fr≠l.fr)(h2:∀x∈c,x.fr≠l.to)(h3:l.fr≠l.to):wfC (c++[l]):=by
 have hl:(c++[l]).length=c.length+1:=by simp
 refine⟨fun i j hi hj hij=>?_,fun i j hi hj hij=>?_⟩
 ·rw[hl]at hi
  have hj2:j<c.length:=by omega
  rw[List.getElem_append_left hj2]
  rcases Nat.lt_or_ge i c.length with h4|h4
  ·rw[List.getElem_append_left h4];exact h.d i j h4 hj2 hij
  ·have:i=c.length:=by omega
   subst this
   rw[List.getElem_append_right (Nat.le_refl _)]
   simpa using h1 _ (List.getElem_mem hj2)
 ·rw[hl]at hi
  rcases Nat.lt_or_ge i c.length with h4|h4
  ·have hj2:j<c.length:=by omega
   rw[List.getElem_append_left hj2,List.getElem_append_left h4];exact h.t i j h4 hj2 hij
  ·have:i=c.length:=by omega
   subst this
   rw[List.getElem_append_right (Nat.le_refl _)]
   rcases Nat.lt_or_ge j c.length with h5|h5
   ·rw[List.getElem_append_left h5]
    simpa using h2 _ (List.getElem_mem h5)
   ·have:j=c.length:=by rw[hl]at hj;omega
    subst this
    rw[List.getElem_append_right (Nat.le_refl _)]
    simpa using h3
theorem znJ {α:Type}:∀(l:List α),l=[]∨∃a x,l=a++[x]
 |[]=> .inl rfl
 |x::l=> .inr (by
  rcases znJ l with rfl|⟨a,y,rfl⟩
  ·exact⟨[],x,rfl⟩
  ·exact⟨x::a,y,rfl⟩)
theorem zhA:∀(n:Nat) (c:List za4),c.length=n→wfC c→∀w,∀l∈c,l.fr≠zaX c w
 |0,c,hn,_,w,l,hl=>by rw[List.eq_nil_of_length_eq_zero hn]at hl;simp at hl
 |n+1,c,hn,h,w,l,hl=>by
  rcases znJ c with rfl|⟨a,x,rfl⟩
  ·simp at hn
  have hla:a.length=n:=by simpa using hn
  have ih:=zhA n a hla (zB3 h) w
  have hxa:(a++[x])[a.length]'(by simp)=x:=by rw[List.getElem_append_right (Nat.le_refl _)];simp
  rw[zhB]
  by_cases e:zaX a w=x.fr
  ·rw[if_pos e]
   obtain⟨j,hj,rfl⟩:=List.getElem_of_mem hl
   have:=h.t a.length j (by simp) hj (by simp at hj;omega)
   rwa [hxa]at this
  ·rw[if_neg e]
   rcases List.mem_append.1 hl with hl|hl
   ·exact ih l hl
   ·rw[List.mem_singleton.1 hl];exact fun h=>e h.symm
theorem ztb {c:List za4}(h:wfC c){i:Nat}(hi:i<c.length):zaX c c[i].fr=zaX c c[i].to:=by
 have hc:c=c.take i++c[i]::c.drop (i+1):=by rw[←List.drop_eq_getElem_cons hi,List.take_append_drop]
 have h1:zaX (c.take i) c[i].fr=c[i].fr:=zgV fun l hl=>by
  obtain⟨j,hj,rfl⟩:=List.getElem_of_mem hl
  rw[List.length_take]at hj
  rw[List.getElem_take]
  exact h.d i j hi (by omega) (by omega)
 have h2:zaX (c.take i++[c[i]]) c[i].to=c[i].to:=zgV fun l hl=>by
  rcases List.mem_append.1 hl with hl|hl
  ·obtain⟨j,hj,rfl⟩:=List.getElem_of_mem hl
   rw[List.length_take]at hj
   rw[List.getElem_take]
   exact h.t i j hi (by omega) (by omega)
  ·rw[List.mem_singleton.1 hl];exact h.t i i hi hi (Nat.le_refl _)
 have h3:zaX (c.take i++[c[i]]) c[i].fr=c[i].to:=by rw[zhB,h1,if_pos rfl]
 have e:c=(c.take i++[c[i]])++c.drop (i+1):=by rw[List.append_assoc];exact hc
 have k1:=zoi (c.take i++[c[i]]) (c.drop (i+1)) c[i].fr
 have k2:=zoi (c.take i++[c[i]]) (c.drop (i+1)) c[i].to
 rw[←e]at k1 k2
 rw[k1,k2,h2,h3]
def zpG (c:List za4)(f:zac):List za4:=
 if f.kind≠3 then c
 else if zaX c (f.words.getD 0 ⟨[]⟩)=zaX c (f.words.getD 1 ⟨[]⟩)then c
 else c++[⟨zaX c (f.words.getD 0 ⟨[]⟩),zaX c (f.words.getD 1 ⟨[]⟩)⟩]
def zgx (l:List zac):List za4:=l.foldl zpG []
theorem zup (l:List zac)(f:zac):zgx (l++[f])=zpG (zgx l) f:=by unfold zgx;rw[List.foldl_append];rfl
theorem zBy {c:List za4}(h:wfC c)(f:zac):wfC (zpG c f):=by
 unfold zpG
 split
 ·exact h
 ·split
  ·exact h
  ·rename_i h1
   exact zzs h (zhA _ c rfl h _) (zhA _ c rfl h _) h1
theorem zys (c:List za4)(f:zac):(zpG c f).length≤c.length+1:=by
 unfold zpG
 split
 ·omega
 ·split
  ·omega
  ·simp
theorem zuq (l:List zac):wfC (zgx l)∧(zgx l).length≤l.length:=by
 unfold zgx
 suffices h:∀(l:List zac) (c:List za4),wfC c→wfC (l.foldl zpG c)∧(l.foldl zpG c).length≤c.length+l.length by
  have:=h l [] ⟨fun i j hi=>by simp at hi,fun i j hi=>by simp at hi⟩
  simpa using this
 intro l
 induction l with
 |nil=>intro c h;exact⟨h,by simp⟩
 |cons f l ih=>
  intro c h
  rw[List.foldl_cons]
  obtain⟨h1,h2⟩:=ih _ (zBy h f)
  have:=zys c f
  exact⟨h1,by rw[List.length_cons];omega⟩
def zeI (c:List za4)(f g:zac):Bool:=decide (f.kind=2)&&decide (g.kind=2)&&decide (f.name=g.name)&&decide (f.words.map (zaX c)=g.words.map (zaX c))
def zmx (c:List za4)(f:zac):Bool:=decide (f.kind=4)&&(decide ((zb6 f).kind=1)||decide ((zb6 f).kind=3)&&decide (zaX c ((zb6 f).words.getD 0 ⟨[]⟩)=zaX c ((zb6 f).words.getD 1 ⟨[]⟩)))
end Go.Abs
namespace Go.Abs
open Go
def zjU (f:zac)(name:Str):zac:=zaC (zb6 f) [⟨f.name,name⟩]
def zbK (q:zac)(turned:Bool)(name:Str):zac:=if turned then ngg (zjU q name)else zjU q name
def zyH (l:List zac)(name:Str):Bool:=l.any fun f=>decide (name∈zaP f)
def zot (f:zac)(nm:Str):Str:=if f.words.getD 0 ⟨[]⟩=nm then f.words.getD 1 ⟨[]⟩else f.words.getD 0 ⟨[]⟩
def inL (l:List zac)(i:Int):Bool:=decide (0≤i)&&decide (i<l.length)
def atL (l:List zac)(i:Int):zac:=l.getD i.toNat za7
def ziP (l:List zac)(f g:zac):Bool:=decide (ngg f=g)||decide (g.kind=4)&&zeI (zgx l) f (zb6 g)
def zug (k fo ot:Int)(nm:Str)(cs:List (List zac→Bool))(l:List zac):Bool:=
 if inL l fo=false then false
 else if k=1 then decide (cs.length=0)&&inL l ot&&(if ot=fo then zmx (zgx l) (atL l fo)else ziP l (atL l fo) (atL l ot))
 else if k=2 then decide ((zah (atL l fo)).1=1)&&decide (cs.length=1)&&cs.getD 0 (fun _=>false) (l++(zah (atL l fo)).2.1)
 else if k=3 then decide ((zah (atL l fo)).1=2)&&decide (cs.length=2)&&cs.getD 0 (fun _=>false) (l++[(zah (atL l fo)).2.1.getD 0 za7])&&cs.getD 1 (fun _=>false) (l++[(zah (atL l fo)).2.1.getD 1 za7])
 else if k=4 then decide ((zah (atL l fo)).1=3)&&zas nm&&decide (cs.length=1)&&cs.getD 0 (fun _=>false) (l++[zbK (zah (atL l fo)).2.2.1 (zah (atL l fo)).2.2.2 nm])
 else if k=5 then decide ((zah (atL l fo)).1=4)&&zas nm&& !zyH l nm&&decide (cs.length=1)&&cs.getD 0 (fun _=>false) (l++[zbK (zah (atL l fo)).2.2.1 (zah (atL l fo)).2.2.2 nm])
 else if k=6 then decide ((atL l fo).kind=3)&&inL l ot&&decide (cs.length=1)&&decide (nm∈(atL l fo).words)&&cs.getD 0 (fun _=>false) (l++[zaC (atL l ot) [⟨nm,zot (atL l fo) nm⟩]])
 else false
mutual
def zcd:Prf→List zac→Bool
 | .mk k fo ot nm s,l=>zug k fo ot nm (zxz s) l
def zxz:List Prf→List (List zac→Bool)
 |[]=>[]
 |p::ps=>zcd p::zxz ps
end
theorem zmP:∀l:List Prf,zxz l=l.map zcd
 |[]=>rfl
 |p::l=>by rw[zxz,zmP l];rfl
theorem zfh (p:Prf)(l:List zac):zcd p l=zug p.kind p.form p.other p.name (p.subs.map zcd) l:=by cases p;rw[zcd,zmP];rfl
theorem brF.cn {f:zac}(h:brF f){env:List za4}:brF (zaC f env):=⟨ziJ h.v,by rw[zhe];exact h.ft,by rw[zcA];exact h.s⟩
theorem brF.ng {f:zac}(h:brF f)(hs:f.size+1≤800):brF (ngg f):=by
 unfold ngg
 refine⟨ziJ ?_,?_,?_⟩
 ·unfold zbx
  rw[vok,ziu,ziu]
  exact⟨by decide,by decide,fun e=>absurd e (by decide),fun e=>absurd e (by decide),fun _=>rfl,fun e=>by omega,h.v,trivial⟩
 ·rw[zhe];simp[zbx,zac.fit,zac.fits,h.ft]
 ·rw[zcA];simp only[zbx,zac.size,zac.sizes];omega
theorem zgZ {f a:zac}(h:f.subs=[a]):f.size=a.size+1:=by
 cases f with
 |mk k nm ws s=>rw[zaM]at h;subst h;rw[zac.size,zac.sizes,zac.sizes]
theorem zfT {f a b:zac}(h:f.subs=[a,b]):f.size=a.size+b.size+1:=by
 cases f with
 |mk k nm ws s=>rw[zaM]at h;subst h;rw[zac.size,zac.sizes,zac.sizes,zac.sizes];rfl
theorem zeU {f:zac}(h:brF f):(∀g∈(zah f).2.1,brF g)∧((zah f).1=2→(zah f).2.1.length=2)∧(zah f).2.1.length≤2∧
  (((zah f).1=3∨(zah f).1=4)→∃a,(zah f).2.2.1.subs=[a]∧brF a∧a.size+1≤800):=by
 have hs:=h.s
 by_cases k5:f.kind=5
 ·obtain⟨a,b,hab,s0,s1,ha,hb⟩:=zcZ h (by omega)
  have hz:=zfT hab
  have hpa:=a.size_pos
  have hpb:=b.size_pos
  have e:zah f=(1,[cnn a,cnn b],za7,false):=by
   unfold zah
   rw[s0,s1,k5];rfl
  rw[e]
  refine⟨fun x hx=>?_,fun e=>by simp at e,Nat.le_refl _,fun e=>by simp at e⟩
  simp only[List.mem_cons,List.not_mem_nil,or_false]at hx
  rcases hx with rfl|rfl
  ·exact ha.cn
  ·exact hb.cn
 by_cases k6:f.kind=6
 ·obtain⟨a,b,hab,s0,s1,ha,hb⟩:=zcZ h (by omega)
  have hz:=zfT hab
  have hpa:=a.size_pos
  have hpb:=b.size_pos
  have e:zah f=(2,[cnn a,cnn b],za7,false):=by
   unfold zah
   rw[s0,s1,k6];rfl
  rw[e]
  refine⟨fun x hx=>?_,fun _=>rfl,Nat.le_refl _,fun e=>by simp at e⟩
  simp only[List.mem_cons,List.not_mem_nil,or_false]at hx
  rcases hx with rfl|rfl
  ·exact ha.cn
  ·exact hb.cn
 by_cases k7:f.kind=7
 ·obtain⟨a,b,hab,s0,s1,ha,hb⟩:=zcZ h (by omega)
  have hz:=zfT hab
  have hpa:=a.size_pos
  have hpb:=b.size_pos
  have e:zah f=(2,[ngg a,cnn b],za7,false):=by
   unfold zah
   rw[s0,s1,k7];rfl
  rw[e]
  refine⟨fun x hx=>?_,fun _=>rfl,Nat.le_refl _,fun e=>by simp at e⟩
  simp only[List.mem_cons,List.not_mem_nil,or_false]at hx
  rcases hx with rfl|rfl
  ·exact ha.ng (by omega)
  ·exact hb.cn
 by_cases k8:f.kind=8
 ·obtain⟨a,ha,s0,hb⟩:=zcr h (by omega)
  have hz:=zgZ ha
  have e:zah f=(3,[],f,false):=by
   unfold zah
   rw[k8];rfl
  rw[e]
  exact⟨fun x hx=>by simp at hx,fun e=>by simp at e,Nat.zero_le _,fun _=>⟨a,ha,hb,by omega⟩⟩
 by_cases k9:f.kind=9
 ·obtain⟨a,ha,s0,hb⟩:=zcr h (by omega)
  have hz:=zgZ ha
  have e:zah f=(4,[],f,false):=by
   unfold zah
   rw[k9];rfl
  rw[e]
  exact⟨fun x hx=>by simp at hx,fun e=>by simp at e,Nat.zero_le _,fun _=>⟨a,ha,hb,by omega⟩⟩
 by_cases k4:f.kind=4
 ·obtain⟨g,hg,s0,hbg⟩:=zcr h (.inl k4)
  have hzg:=zgZ hg
  by_cases j4:g.kind=4
  ·obtain⟨a,ha,t0,hb⟩:=zcr hbg (.inl j4)
   have e:zah f=(1,[cnn a],za7,false):=by
    unfold zah
    rw[s0,t0,k4,j4];rfl
   rw[e]
   refine⟨fun x hx=>?_,fun e=>by simp at e,by simp,fun e=>by simp at e⟩
   rw[List.mem_singleton.1 hx];exact hb.cn
  by_cases j5:g.kind=5
  ·obtain⟨a,b,hab,t0,t1,ha,hb⟩:=zcZ hbg (by omega)
   have hz:=zfT hab
   have hpa:=a.size_pos
   have hpb:=b.size_pos
   have e:zah f=(2,[ngg a,ngg b],za7,false):=by
    unfold zah
    rw[s0,t0,t1,k4,j5];rfl
   rw[e]
   refine⟨fun x hx=>?_,fun _=>rfl,Nat.le_refl _,fun e=>by simp at e⟩
   simp only[List.mem_cons,List.not_mem_nil,or_false]at hx
   rcases hx with rfl|rfl
   ·exact ha.ng (by omega)
   ·exact hb.ng (by omega)
  by_cases j6:g.kind=6
  ·obtain⟨a,b,hab,t0,t1,ha,hb⟩:=zcZ hbg (by omega)
   have hz:=zfT hab
   have hpa:=a.size_pos
   have hpb:=b.size_pos
   have e:zah f=(1,[ngg a,ngg b],za7,false):=by
    unfold zah
    rw[s0,t0,t1,k4,j6];rfl
   rw[e]
   refine⟨fun x hx=>?_,fun e=>by simp at e,Nat.le_refl _,fun e=>by simp at e⟩
   simp only[List.mem_cons,List.not_mem_nil,or_false]at hx
   rcases hx with rfl|rfl
   ·exact ha.ng (by omega)
   ·exact hb.ng (by omega)
  by_cases j7:g.kind=7
  ·obtain⟨a,b,hab,t0,t1,ha,hb⟩:=zcZ hbg (by omega)
   have hz:=zfT hab
   have hpa:=a.size_pos
   have hpb:=b.size_pos
   have e:zah f=(1,[cnn a,ngg b],za7,false):=by
    unfold zah
    rw[s0,t0,t1,k4,j7];rfl
   rw[e]
   refine⟨fun x hx=>?_,fun e=>by simp at e,Nat.le_refl _,fun e=>by simp at e⟩
   simp only[List.mem_cons,List.not_mem_nil,or_false]at hx
   rcases hx with rfl|rfl
   ·exact ha.cn
   ·exact hb.ng (by omega)
  by_cases j8:g.kind=8
  ·obtain⟨a,ha,t0,hb⟩:=zcr hbg (by omega)
   have hz:=zgZ ha
   have e:zah f=(4,[],g,true):=by
    unfold zah
    rw[s0,k4,j8];rfl
   rw[e]
   exact⟨fun x hx=>by simp at hx,fun e=>by simp at e,Nat.zero_le _,fun _=>⟨a,ha,hb,by omega⟩⟩
  by_cases j9:g.kind=9
  ·obtain⟨a,ha,t0,hb⟩:=zcr hbg (by omega)
   have hz:=zgZ ha
   have e:zah f=(3,[],g,true):=by
    unfold zah
    rw[s0,k4,j9];rfl
   rw[e]
   exact⟨fun x hx=>by simp at hx,fun e=>by simp at e,Nat.zero_le _,fun _=>⟨a,ha,hb,by omega⟩⟩
  have e:zah f=(0,[],za7,false):=by
   unfold zah
   rw[s0,k4]
   simp only[j4,j5,j6,j7,j8,j9,if_false]
   rfl
  rw[e]
  exact⟨fun x hx=>by simp at hx,fun e=>by simp at e,Nat.zero_le _,fun e=>by simp at e⟩
 have e:zah f=(0,[],za7,false):=by
  unfold zah
  simp only[k4,k5,k6,k7,k8,k9,if_false]
 rw[e]
 exact⟨fun x hx=>by simp at hx,fun e=>by simp at e,Nat.zero_le _,fun e=>by simp at e⟩
theorem zhr {q a:zac}{t:Bool}{nm:Str}(hq:q.subs=[a])(ha:brF a)(hs:a.size+1≤800):brF (zbK q t nm):=by
 have e:zjU q nm=zaC a [⟨q.name,nm⟩]:=by unfold zjU zb6;rw[hq];rfl
 unfold zbK
 rw[e]
 cases t with
 |false=>exact ha.cn
 |true=>exact(ha.cn).ng (by rw[zcA];omega)
end Go.Abs
