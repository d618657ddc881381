import Derived.Test.YtdlioodgfopmfaaGreatDoorTA
import Derived.Test.YtdlioodgfopmfaaGreatDoorVP
import Derived.Test.YtdlioodgfopmfaaGreatDoorPF
set_option linter.unusedSimpArgs false
namespace Go.Abs
open Go
def zdE (f:zac)(name:Str):zac:=zau (zbo f) [⟨f.name,name⟩]
def zbJ (q:zac)(turned:Bool)(name:Str):zac:=if turned then ngg (zdE q name)else zdE q name
def zxu (l:List zac)(name:Str):Bool:=l.any fun f=>decide (name∈zba f)
def zuc (f:zac)(nm:Str):Str:=if f.words.getD 0 ⟨[]⟩=nm then f.words.getD 1 ⟨[]⟩else f.words.getD 0 ⟨[]⟩
def inL (l:List zac)(i:Int):Bool:=decide (0≤i)&&decide (i<l.length)
def atL (l:List zac)(i:Int):zac:=l.getD i.toNat zbk
def zhn (l:List zac)(f g:zac):Bool:=decide (ngg f=g)||decide (g.kind=4)&&zci (zeM l) f (zbo g)
def ziq (k fo ot:Int)(nm:Str)(cs:List (List zac→Bool))(l:List zac):Bool:=
 if inL l fo=false then false
 else if k=1 then decide (cs.length=0)&&inL l ot&&(if ot=fo then zhG (zeM l) (atL l fo)else zhn l (atL l fo) (atL l ot))
 else if k=2 then decide ((zag (atL l fo)).1=1)&&decide (cs.length=1)&&cs.getD 0 (fun _=>false) (l++(zag (atL l fo)).2.1)
 else if k=3 then decide ((zag (atL l fo)).1=2)&&decide (cs.length=2)&&cs.getD 0 (fun _=>false) (l++[(zag (atL l fo)).2.1.getD 0 zbk])&&cs.getD 1 (fun _=>false) (l++[(zag (atL l fo)).2.1.getD 1 zbk])
 else if k=4 then decide ((zag (atL l fo)).1=3)&&zas nm&&decide (cs.length=1)&&cs.getD 0 (fun _=>false) (l++[zbJ (zag (atL l fo)).2.2.1 (zag (atL l fo)).2.2.2 nm])
 else if k=5 then decide ((zag (atL l fo)).1=4)&&zas nm&& !zxu l nm&&decide (cs.length=1)&&cs.getD 0 (fun _=>false) (l++[zbJ (zag (atL l fo)).2.2.1 (zag (atL l fo)).2.2.2 nm])
 else if k=6 then decide ((atL l fo).kind=3)&&inL l ot&&decide (cs.length=1)&&decide (nm∈(atL l fo).words)&&cs.getD 0 (fun _=>false) (l++[zau (atL l ot) [⟨nm,zuc (atL l fo) nm⟩]])
 else false
mutual
def zbr:Prf→List zac→Bool
 | .mk k fo ot nm s,l=>ziq k fo ot nm (zvk s) l
def zvk:List Prf→List (List zac→Bool)
 |[]=>[]
 |p::ps=>zbr p::zvk ps
end
theorem zlR:∀l:List Prf,zvk l=l.map zbr
 |[]=>rfl
 |p::l=>by rw[zvk,zlR l];rfl
theorem zcC (p:Prf)(l:List zac):zbr p l=ziq p.kind p.form p.other p.name (p.subs.map zbr) l:=by cases p;rw[zbr,zlR];rfl
theorem brF.cn {f:zac}(h:brF f){env:List zaR}:brF (zau f env):=⟨zlP h.v,by rw[zgN];exact h.ft,by rw[zbZ];exact h.s⟩
theorem brF.ng {f:zac}(h:brF f)(hs:f.size+1≤800):brF (ngg f):=by
 unfold ngg
 refine⟨zlP ?_,?_,?_⟩
 ·unfold zdP
  rw[vok,zkc,zkc]
  exact⟨by decide,by decide,fun e=>absurd e (by decide),fun e=>absurd e (by decide),fun _=>rfl,fun e=>by omega,h.v,trivial⟩
 ·rw[zgN];simp[zdP,zac.fit,zac.fits,h.ft]
 ·rw[zbZ];simp only[zdP,zac.size,zac.sizes];omega
theorem zcY {f a:zac}(h:f.subs=[a]):f.size=a.size+1:=by
 cases f with
 |mk k nm ws s=>rw[za9]at h;subst h;rw[zac.size,zac.sizes,zac.sizes]
theorem zdl {f a b:zac}(h:f.subs=[a,b]):f.size=a.size+b.size+1:=by
 cases f with
 |mk k nm ws s=>rw[za9]at h;subst h;rw[zac.size,zac.sizes,zac.sizes,zac.sizes];rfl
theorem zcH {f:zac}(h:brF f):(∀g∈(zag f).2.1,brF g)∧((zag f).1=2→(zag f).2.1.length=2)∧(zag f).2.1.length≤2∧
  (((zag f).1=3∨(zag f).1=4)→∃a,(zag f).2.2.1.subs=[a]∧brF a∧a.size+1≤800):=by
 have hs:=h.s
 by_cases k5:f.kind=5
 ·obtain⟨a,b,hab,s0,s1,ha,hb⟩:=zd8 h (by omega)
  have hz:=zdl hab
  have hpa:=a.size_pos
  have hpb:=b.size_pos
  have e:zag f=(1,[cnn a,cnn b],zbk,false):=by
   unfold zag
   rw[s0,s1,k5];rfl
  rw[e]
  refine⟨fun x hx=>?_,fun e=>by simp at e,Nat.le_refl _,fun e=>by simp at e⟩
  simp only[List.mem_cons,List.not_mem_nil,or_false]at hx
  rcases hx with rfl|rfl
  ·exact ha.cn
  ·exact hb.cn
 by_cases k6:f.kind=6
 ·obtain⟨a,b,hab,s0,s1,ha,hb⟩:=zd8 h (by omega)
  have hz:=zdl hab
  have hpa:=a.size_pos
  have hpb:=b.size_pos
  have e:zag f=(2,[cnn a,cnn b],zbk,false):=by
   unfold zag
   rw[s0,s1,k6];rfl
  rw[e]
  refine⟨fun x hx=>?_,fun _=>rfl,Nat.le_refl _,fun e=>by simp at e⟩
  simp only[List.mem_cons,List.not_mem_nil,or_false]at hx
  rcases hx with rfl|rfl
  ·exact ha.cn
  ·exact hb.cn
 by_cases k7:f.kind=7
 ·obtain⟨a,b,hab,s0,s1,ha,hb⟩:=zd8 h (by omega)
  have hz:=zdl hab
  have hpa:=a.size_pos
  have hpb:=b.size_pos
  have e:zag f=(2,[ngg a,cnn b],zbk,false):=by
   unfold zag
   rw[s0,s1,k7];rfl
  rw[e]
  refine⟨fun x hx=>?_,fun _=>rfl,Nat.le_refl _,fun e=>by simp at e⟩
  simp only[List.mem_cons,List.not_mem_nil,or_false]at hx
  rcases hx with rfl|rfl
  ·exact ha.ng (by omega)
  ·exact hb.cn
 by_cases k8:f.kind=8
 ·obtain⟨a,ha,s0,hb⟩:=zdd h (by omega)
  have hz:=zcY ha
  have e:zag f=(3,[],f,false):=by
   unfold zag
   rw[k8];rfl
  rw[e]
  exact⟨fun x hx=>by simp at hx,fun e=>by simp at e,Nat.zero_le _,fun _=>⟨a,ha,hb,by omega⟩⟩
 by_cases k9:f.kind=9
 ·obtain⟨a,ha,s0,hb⟩:=zdd h (by omega)
  have hz:=zcY ha
  have e:zag f=(4,[],f,false):=by
   unfold zag
   rw[k9];rfl
  rw[e]
  exact⟨fun x hx=>by simp at hx,fun e=>by simp at e,Nat.zero_le _,fun _=>⟨a,ha,hb,by omega⟩⟩
 by_cases k4:f.kind=4
 ·obtain⟨g,hg,s0,hbg⟩:=zdd h (.inl k4)
  have hzg:=zcY hg
  by_cases j4:g.kind=4
  ·obtain⟨a,ha,t0,hb⟩:=zdd hbg (.inl j4)
   have e:zag f=(1,[cnn a],zbk,false):=by
    unfold zag
    rw[s0,t0,k4,j4];rfl
   rw[e]
   refine⟨fun x hx=>?_,fun e=>by simp at e,by simp,fun e=>by simp at e⟩
   rw[List.mem_singleton.1 hx];exact hb.cn
  by_cases j5:g.kind=5
  ·obtain⟨a,b,hab,t0,t1,ha,hb⟩:=zd8 hbg (by omega)
   have hz:=zdl hab
   have hpa:=a.size_pos
   have hpb:=b.size_pos
   have e:zag f=(2,[ngg a,ngg b],zbk,false):=by
    unfold zag
    rw[s0,t0,t1,k4,j5];rfl
   rw[e]
   refine⟨fun x hx=>?_,fun _=>rfl,Nat.le_refl _,fun e=>by simp at e⟩
   simp only[List.mem_cons,List.not_mem_nil,or_false]at hx
   rcases hx with rfl|rfl
   ·exact ha.ng (by omega)
   ·exact hb.ng (by omega)
  by_cases j6:g.kind=6
  ·obtain⟨a,b,hab,t0,t1,ha,hb⟩:=zd8 hbg (by omega)
   have hz:=zdl hab
   have hpa:=a.size_pos
   have hpb:=b.size_pos
   have e:zag f=(1,[ngg a,ngg b],zbk,false):=by
    unfold zag
    rw[s0,t0,t1,k4,j6];rfl
   rw[e]
   refine⟨fun x hx=>?_,fun e=>by simp at e,Nat.le_refl _,fun e=>by simp at e⟩
   simp only[List.mem_cons,List.not_mem_nil,or_false]at hx
   rcases hx with rfl|rfl
   ·exact ha.ng (by omega)
   ·exact hb.ng (by omega)
  by_cases j7:g.kind=7
  ·obtain⟨a,b,hab,t0,t1,ha,hb⟩:=zd8 hbg (by omega)
   have hz:=zdl hab
   have hpa:=a.size_pos
   have hpb:=b.size_pos
   have e:zag f=(1,[cnn a,ngg b],zbk,false):=by
    unfold zag
    rw[s0,t0,t1,k4,j7];rfl
   rw[e]
   refine⟨fun x hx=>?_,fun e=>by simp at e,Nat.le_refl _,fun e=>by simp at e⟩
   simp only[List.mem_cons,List.not_mem_nil,or_false]at hx
   rcases hx with rfl|rfl
   ·exact ha.cn
   ·exact hb.ng (by omega)
  by_cases j8:g.kind=8
  ·obtain⟨a,ha,t0,hb⟩:=zdd hbg (by omega)
   have hz:=zcY ha
   have e:zag f=(4,[],g,true):=by
    unfold zag
    rw[s0,k4,j8];rfl
   rw[e]
   exact⟨fun x hx=>by simp at hx,fun e=>by simp at e,Nat.zero_le _,fun _=>⟨a,ha,hb,by omega⟩⟩
  by_cases j9:g.kind=9
  ·obtain⟨a,ha,t0,hb⟩:=zdd hbg (by omega)
   have hz:=zcY ha
   have e:zag f=(3,[],g,true):=by
    unfold zag
    rw[s0,k4,j9];rfl
   rw[e]
   exact⟨fun x hx=>by simp at hx,fun e=>by simp at e,Nat.zero_le _,fun _=>⟨a,ha,hb,by omega⟩⟩
  have e:zag f=(0,[],zbk,false):=by
   unfold zag
   rw[s0,k4]
   simp only[j4,j5,j6,j7,j8,j9,if_false]
   rfl
  rw[e]
  exact⟨fun x hx=>by simp at hx,fun e=>by simp at e,Nat.zero_le _,fun e=>by simp at e⟩
 have e:zag f=(0,[],zbk,false):=by
  unfold zag
  simp only[k4,k5,k6,k7,k8,k9,if_false]
 rw[e]
 exact⟨fun x hx=>by simp at hx,fun e=>by simp at e,Nat.zero_le _,fun e=>by simp at e⟩
theorem zs4 {q a:zac}{t:Bool}{nm:Str}(hq:q.subs=[a])(ha:brF a)(hs:a.size+1≤800):brF (zbJ q t nm):=by
 have e:zdE q nm=zau a [⟨q.name,nm⟩]:=by unfold zdE zbo;rw[hq];rfl
 unfold zbJ
 rw[e]
 cases t with
 |false=>exact ha.cn
 |true=>exact(ha.cn).ng (by rw[zbZ];omega)
end Go.Abs
