/- several texts of this proof in one; no conditions -/
import Derived.Test.YtmconmiemdinkaaGreatDoorY15
set_option linter.unusedSimpArgs false
namespace Go.Abs
open Go
structure okG (n:Nat)(K:Nat→List Nat)(par:Nat→Option Nat):Prop where
 k:∀i j,i<n→(j∈K i↔(j<n∧par j=some i))
 p:∀j i,j<n→par j=some i→i<n
def upP (par:Nat→Option Nat):Nat→Nat→Option Nat
 |0,j=>some j
 |k+1,j=>(par j).bind (upP par k)
def zfP (par:Nat→Option Nat)(a:Nat):Nat→Nat→Bool
 |0,_=>false
 |m+1,b=>decide (b=a)||match par b with|none=>false|some c=>zfP par a m c
def zhJ (K:Nat→List Nat):Nat→List Bool→Nat→List Bool
 |0,seen,_=>seen
 |f+1,seen,i=>if seen.getD i false=true then seen else(K i).foldl (fun sn c=>zhJ K f sn c) (seen.set i true)
def za2 (K:Nat→List Nat):Nat→Nat→List Nat
 |0,_=>[]
 |f+1,i=>i::(K i).flatMap (za2 K f)
def zgT (seen:List Bool):Nat:=(seen.filter (fun b=> !b)).length
section
variable {n:Nat} {K:Nat→List Nat} {par:Nat→Option Nat}
theorem zha:∀(a b j:Nat),upP par (a+b) j=(upP par a j).bind (upP par b)
 |0,b,j=>by rw[Nat.zero_add];rfl
 |a+1,b,j=>by
  rw[show a+1+b=(a+b)+1 by omega,upP,upP]
  cases par j with
  |none=>rfl
  |some i=>exact zha a b i
theorem zcW (k j:Nat):upP par (k+1) j=(upP par k j).bind par:=by
 rw[zha k 1 j]
 congr 1
 funext i
 rw[upP]
 cases par i<;>rfl
theorem zxW (hG:okG n K par):∀(k:Nat) {j i:Nat},j<n→upP par k j=some i→i<n
 |0,j,i,hj,h=>by
  have e:j=i:=Option.some.inj h
  omega
 |k+1,j,i,hj,h=>by
  rw[upP]at h
  cases hp:par j with
  |none=>rw[hp]at h;cases h
  |some c=>
   rw[hp]at h
   exact zxW hG k (hG.p j c hj hp) h
theorem zfm {a:Nat}:∀(m b:Nat),zfP par a m b=true↔∃k,k<m∧upP par k b=some a
 |0,b=>by simp[zfP]
 |m+1,b=>by
  rw[zfP]
  simp only[Bool.or_eq_true,decide_eq_true_eq]
  constructor
  ·rintro(h|h)
   ·exact⟨0,by omega,by rw[upP,h]⟩
   ·cases hp:par b with
    |none=>rw[hp]at h;cases h
    |some c=>
     rw[hp]at h
     obtain⟨k,hk,hu⟩:=(zfm m c).1 h
     exact⟨k+1,by omega,by rw[upP,hp];exact hu⟩
  ·rintro⟨k,hk,hu⟩
   cases k with
   |zero=>exact .inl (Option.some.inj hu)
   |succ k=>
    rw[upP]at hu
    cases hp:par b with
    |none=>rw[hp]at hu;cases hu
    |some c=>
     rw[hp]at hu
     exact .inr ((zfm m c).2 ⟨k,by omega,hu⟩)
theorem ziB:∀{seen:List Bool} {i:Nat},i<seen.length→seen.getD i false=false→zgT (seen.set i true)+1=zgT seen
 |[],i,h,_=>by simp at h
 |b::l,0,_,h=>by
  simp only[List.getD_cons_zero]at h
  subst h
  simp[zgT]
 |b::l,i+1,h,h2=>by
  have h3:=ziB (seen:=l) (i:=i) (by simpa using h) (by simpa using h2)
  rw[List.set_cons_succ]
  unfold zgT at h3 ⊢
  rw[List.filter_cons,List.filter_cons]
  cases b<;>simp<;>omega
theorem zgU:∀{a b:List Bool},a.length=b.length→(∀j,a.getD j false=true→b.getD j false=true)→zgT b≤zgT a
 |[],[],_,_=>Nat.le_refl _
 |[],_::_,h,_=>by simp at h
 |_::_,[],h,_=>by simp at h
 |x::a,y::b,h,h2=>by
  have h3:=zgU (a:=a) (b:=b) (by simpa using h) fun j hj=>by have:=h2 (j+1) (by simpa using hj);simpa using this
  have h4:=h2 0
  simp only[List.getD_cons_zero]at h4
  unfold zgT at h3 ⊢
  rw[List.filter_cons,List.filter_cons]
  cases x<;>cases y<;>simp_all<;>omega
structure zJr (n:Nat)(K:Nat→List Nat)(par:Nat→Option Nat)(f:Nat)(seen r:List Bool)(i:Nat):Prop where
 l:r.length=n
 u:∀j,seen.getD j false=true→r.getD j false=true
 m:r.getD i false=true
 c:∀j,j<n→r.getD j false=true→seen.getD j false=false→∀c∈K j,r.getD c false=true
 w:∀j,j<n→r.getD j false=true→seen.getD j false=true∨∃k,k<f∧upP par k j=some i
theorem zdx {l:List Bool}{i:Nat}(h:i<l.length):(l.set i true).getD i false=true:=by
 rw[List.getD_eq_getElem?_getD,List.getElem?_set_self h];rfl
theorem zoA {l:List Bool}{i j:Nat}(h:l.getD j false=true):(l.set i true).getD j false=true:=by
 by_cases e:i=j
 ·subst e
  have h2:i<l.length:=by
   refine Classical.byContradiction fun hc=>?_
   rw[List.getD_eq_getElem?_getD,List.getElem?_eq_none (by omega)]at h
   cases h
  exact zdx h2
 ·rw[List.getD_eq_getElem?_getD,List.getElem?_set_ne e,←List.getD_eq_getElem?_getD];exact h
theorem zgi {l:List Bool}{i j:Nat}(h:(l.set i true).getD j false=true):j=i∨l.getD j false=true:=by
 by_cases e:i=j
 ·exact .inl e.symm
 ·rw[List.getD_eq_getElem?_getD,List.getElem?_set_ne e,←List.getD_eq_getElem?_getD]at h;exact .inr h
theorem zhT (hG:okG n K par):∀(f:Nat) (seen:List Bool) (i:Nat),seen.length=n→i<n→zgT seen<f→zJr n K par f seen (zhJ K f seen i) i
 |0,seen,i,_,_,h=>by omega
 |f+1,seen,i,hl,hi,hf=>by
  rw[zhJ]
  by_cases hs:seen.getD i false=true
  ·rw[if_pos hs]
   exact⟨hl,fun j h=>h,hs,fun j _ h h2=>(by rw[h]at h2;cases h2),fun j _ h=> .inl h⟩
  ·rw[if_neg hs]
   have hs':seen.getD i false=false:=by simpa using hs
   have h1:=ziB (seen:=seen) (i:=i) (by omega) hs'
   have hkid:∀c∈K i,c<n∧par c=some i:=fun c hc=>(hG.k i c hi).1 hc
   suffices key:∀(cs:List Nat) (sn:List Bool),(∀c∈cs,c<n∧par c=some i)→sn.length=n→(∀j,(seen.set i true).getD j false=true→sn.getD j false=true)→(∀j,j<n→sn.getD j false=true→(seen.set i true).getD j false=false→∀c∈K j,sn.getD c false=true)→(∀j,j<n→sn.getD j false=true→(seen.set i true).getD j false=true∨∃k,k<f+1∧upP par k j=some i)→
     (cs.foldl (fun sn c=>zhJ K f sn c) sn).length=n∧(∀j,sn.getD j false=true→(cs.foldl (fun sn c=>zhJ K f sn c) sn).getD j false=true)∧(∀c∈cs,(cs.foldl (fun sn c=>zhJ K f sn c) sn).getD c false=true)∧
     (∀j,j<n→(cs.foldl (fun sn c=>zhJ K f sn c) sn).getD j false=true→(seen.set i true).getD j false=false→∀c∈K j,(cs.foldl (fun sn c=>zhJ K f sn c) sn).getD c false=true)∧
     (∀j,j<n→(cs.foldl (fun sn c=>zhJ K f sn c) sn).getD j false=true→(seen.set i true).getD j false=true∨∃k,k<f+1∧upP par k j=some i) by
    obtain⟨k1,k2,k3,k4,k5⟩:=key (K i) (seen.set i true) hkid (by rw[List.length_set];exact hl) (fun j h=>h) (fun j _ h h2=>by rw[h]at h2;cases h2) (fun j _ h=> .inl h)
    have hset:∀j,seen.getD j false=false→j≠i→(seen.set i true).getD j false=false:=fun j h1 h2=>by
     cases h3:(seen.set i true).getD j false with
     |false=>rfl
     |true=>
      rcases zgi h3 with h4|h4
      ·exact absurd h4 h2
      ·rw[h4]at h1;cases h1
    refine⟨k1,fun j h=>k2 j (zoA h),k2 i (zdx (by omega)),fun j hj h h2=>?_,fun j hj h=>?_⟩
    ·by_cases e:j=i
     ·subst e;exact k3
     ·exact k4 j hj h (hset j h2 e)
    ·rcases k5 j hj h with h2|h2
     ·rcases zgi h2 with rfl|h3
      ·exact .inr ⟨0,by omega,rfl⟩
      ·exact .inl h3
     ·exact .inr h2
   intro cs
   induction cs with
   |nil=>
    intro sn _ h2 h3 h4 h5
    exact⟨h2,fun j h=>h,fun c hc=>by simp at hc,h4,h5⟩
   |cons c cs ih=>
    intro sn hc h2 h3 h4 h5
    have hcc:=hc c (by simp)
    have hfr:zgT sn<f:=by
     have:=zgU (a:=seen.set i true) (b:=sn) (by rw[List.length_set,hl,h2]) h3
     omega
    have hd:=zhT hG f sn c h2 hcc.1 hfr
    rw[List.foldl_cons]
    obtain⟨g1,g2,g3,g4,g5⟩:=ih (zhJ K f sn c) (fun x hx=>hc x (by simp[hx])) hd.l (fun j h=>hd.u j (h3 j h)) (fun j hj h h6 x hx=>by
     cases h7:sn.getD j false with
     |true=>exact hd.u x (h4 j hj h7 h6 x hx)
     |false=>exact hd.c j hj h h7 x hx) (fun j hj h=>by
     rcases hd.w j hj h with h6|⟨k,hk,hu⟩
     ·exact h5 j hj h6
     ·exact .inr ⟨k+1,by omega,by rw[zcW,hu];exact hcc.2⟩)
    refine⟨g1,fun j h=>g2 j (hd.u j h),fun x hx=>?_,g4,g5⟩
    rcases List.mem_cons.1 hx with rfl|hx
    ·exact g2 x hd.m
    ·exact g3 x hx
theorem zgh:∀n:Nat,zgT (List.replicate n false)=n
 |0=>rfl
 |n+1=>by
  have:=zgh n
  unfold zgT at this ⊢
  rw[List.replicate_succ,List.filter_cons]
  simp[this]
theorem zk6 {n j:Nat}:(List.replicate n false).getD j false=false:=by
 rw[List.getD_eq_getElem?_getD,List.getElem?_replicate]
 split<;>rfl
theorem zw0 (hG:okG n K par){top:Nat}(ht:top<n):(zhJ K (n+1) (List.replicate n false) top).contains false=false↔∀j,j<n→zfP par top (n+1) j=true:=by
 have h:=zhT hG (n+1) (List.replicate n false) top (List.length_replicate ..) ht (by rw[zgh];omega)
 obtain⟨r,hr⟩:∃r,zhJ K (n+1) (List.replicate n false) top=r:=⟨_,rfl⟩
 rw[hr]at h ⊢
 have hall:(r.contains false=false)↔∀j,j<n→r.getD j false=true:=by
  constructor
  ·intro h1 j hj
   have h2:j<r.length:=by rw[h.l];exact hj
   rw[List.getD_eq_getElem?_getD,List.getElem?_eq_getElem h2]
   cases h3:r[j]with
   |true=>rfl
   |false=>
    have:r.contains false=true:=by rw[List.contains_iff_mem];rw[←h3];exact List.getElem_mem h2
    rw[this]at h1;cases h1
  ·intro h1
   cases h2:r.contains false with
   |false=>rfl
   |true=>
    rw[List.contains_iff_mem]at h2
    obtain⟨j,hj,e⟩:=List.getElem_of_mem h2
    have h3:=h1 j (by rw[←h.l];exact hj)
    rw[List.getD_eq_getElem?_getD,List.getElem?_eq_getElem hj,e]at h3
    cases h3
 rw[hall]
 constructor
 ·intro h1 j hj
  rcases h.w j hj (h1 j hj)with h2|⟨k,hk,hu⟩
  ·rw[zk6]at h2;cases h2
  ·exact(zfm _ _).2 ⟨k,hk,hu⟩
 ·intro h1 j hj
  obtain⟨k,_,hu⟩:=(zfm _ _).1 (h1 j hj)
  have key:∀(k j:Nat),j<n→upP par k j=some top→r.getD j false=true:=by
   intro k
   induction k with
   |zero=>intro j _ h2;rw[Option.some.inj h2];exact h.m
   |succ k ih=>
    intro j hj h2
    rw[upP]at h2
    cases hp:par j with
    |none=>rw[hp]at h2;cases h2
    |some c=>
     rw[hp]at h2
     have hc:=hG.p j c hj hp
     exact h.c c hc (ih c hc h2) zk6 j ((hG.k c j hc).2 ⟨hj,hp⟩)
  exact key k j hj hu
theorem zd6 (hG:okG n K par){x:Nat}(hx:x<n):∀(f i:Nat),i<n→(x∈za2 K f i↔∃k,k<f∧upP par k x=some i)
 |0,i,_=>by simp[za2]
 |f+1,i,hi=>by
  rw[za2,List.mem_cons,List.mem_flatMap]
  constructor
  ·rintro(rfl|⟨c,hc,h⟩)
   ·exact⟨0,by omega,rfl⟩
   ·obtain⟨hcn,hp⟩:=(hG.k i c hi).1 hc
    obtain⟨k,hk,hu⟩:=(zd6 hG hx f c hcn).1 h
    exact⟨k+1,by omega,by rw[zcW,hu];exact hp⟩
  ·rintro⟨k,hk,hu⟩
   cases k with
   |zero=>exact .inl (Option.some.inj hu)
   |succ k=>
    rw[zcW]at hu
    cases hc:upP par k x with
    |none=>rw[hc]at hu;cases hu
    |some c=>
     rw[hc]at hu
     have hcn:=zxW hG k hx hc
     exact .inr ⟨c,(hG.k i c hi).2 ⟨hcn,hu⟩,(zd6 hG hx f c hcn).2 ⟨k,by omega,hc⟩⟩
theorem zjE (hG:okG n K par):∀(f i:Nat),i<n→(∀j,j<n→upP par f j≠some i)→za2 K (f+1) i=za2 K f i
 |0,i,hi,h=>absurd rfl (h i hi)
 |f+1,i,hi,h=>by
  rw[za2,za2]
  congr 1
  refine congrArg List.flatten (List.map_congr_left fun c hc=>?_)|>fun e=>by simpa[List.flatMap]using e
  obtain⟨hcn,hp⟩:=(hG.k i c hi).1 hc
  exact zjE hG f c hcn fun j hj hu=>h j hj (by rw[zcW,hu];exact hp)
theorem zqm {top:Nat}(h0:par top=none):∀{a b j:Nat},upP par a j=some top→upP par b j=some top→a=b
 |0,0,_,_,_=>rfl
 |0,b+1,j,h1,h2=>by
  obtain rfl:j=top:=Option.some.inj h1
  rw[upP,h0]at h2;cases h2
 |a+1,0,j,h1,h2=>by
  obtain rfl:j=top:=Option.some.inj h2
  rw[upP,h0]at h1;cases h1
 |a+1,b+1,j,h1,h2=>by
  rw[upP]at h1 h2
  cases hp:par j with
  |none=>rw[hp]at h1;cases h1
  |some c=>
   rw[hp]at h1 h2
   rw[zqm h0 h1 h2]
theorem zfr {top:Nat}(h0:par top=none)(ht:∀j,j<n→∃k,k<n+1∧upP par k j=some top){i j:Nat}(hi:i<n)(hj:j<n):upP par (n+1) j≠some i:=fun h=>by
 obtain⟨a,_,ha⟩:=ht i hi
 obtain⟨b,hb,hb2⟩:=ht j hj
 have h2:upP par (n+1+a) j=some top:=by rw[zha,h];exact ha
 have:=zqm h0 h2 hb2
 omega
theorem zkJ (hG:okG n K par){top:Nat}(h0:par top=none)(ht:∀j,j<n→∃k,k<n+1∧upP par k j=some top){i:Nat}(hi:i<n):za2 K (n+1) i=i::(K i).flatMap (za2 K (n+1)):=by
 rw[←zjE hG (n+1) i hi fun j hj=>zfr h0 ht hi hj,za2]
end
end Go.Abs
namespace Go.Abs
open Go
def zcn (s:zar)(i:Nat):List Str:=match s.pieces[i]? with|some p=>zau p.form|none=>[]
def zc4 (s:zar):List (Str×Nat):=(List.range s.pieces.length).flatMap fun i=>(zcn s i).map fun h=>(h,i)
def inP (s:zar)(l:List Nat)(h:Str):Nat:=l.getD ((za5 s.pieces).idxOf h) 0
def zbr (s:zar)(l:List Nat)(i:Nat):List Nat:=(zcn s i).map (inP s l)
def zlV (s:zar):List Nat:=(zc4 s).map (·.2)
def zjl (s:zar)(l:List Nat)(j:Nat):Option Nat:=if j∈l then some ((zlV s).getD (l.idxOf j) 0)else none
def zdE (n:Nat)(l:List Nat):Nat:=((List.range n).find? fun i=> !decide (i∈l)).getD 0
theorem zfK {β:Type}(g:zb8→List β):∀(ps:List zb8),ps.flatMap g=(List.range ps.length).flatMap fun i=>match ps[i]? with|some p=>g p|none=>[]
 |[]=>rfl
 |p::ps=>by
  rw[List.flatMap_cons,zfK g ps,List.length_cons,List.range_succ_eq_map,List.flatMap_cons,List.flatMap_map]
  congr 1
theorem zef (s:zar):(zc4 s).map (·.1)=za5 s.pieces:=by
 unfold zc4 za5
 rw[zfK,List.map_flatMap]
 congr 1
 funext i
 rw[List.map_map]
 unfold zcn
 cases s.pieces[i]? with
 |none=>rfl
 |some p=>simp[Function.comp_def]
theorem zgo {s:zar}{h:Str}{i:Nat}:(h,i)∈zc4 s↔h∈zcn s i:=by
 unfold zc4
 rw[List.mem_flatMap]
 constructor
 ·rintro⟨k,_,hk⟩
  obtain⟨g,hg,e⟩:=List.mem_map.1 hk
  simp only[Prod.mk.injEq]at e
  obtain⟨rfl,rfl⟩:=e
  exact hg
 ·intro hh
  refine⟨i,List.mem_range.2 ?_,List.mem_map.2 ⟨h,hh,rfl⟩⟩
  refine Classical.byContradiction fun hc=>?_
  unfold zcn at hh
  rw[List.getElem?_eq_none (by omega)]at hh
  simp at hh
theorem zmP {α:Type}[BEq α][LawfulBEq α]{l:List α}(hn:l.Nodup){t:Nat}(h:t<l.length):l.idxOf l[t]=t:=by
 have h1:=List.idxOf_lt_length_of_mem (List.getElem_mem h)
 have h2:=List.getElem_idxOf h1
 have hp:=List.pairwise_iff_getElem.1 hn
 rcases Nat.lt_trichotomy (l.idxOf l[t]) t with h3|h3|h3
 ·exact absurd h2 (hp _ _ h1 h h3)
 ·exact h3
 ·exact absurd h2.symm (hp _ _ h h1 h3)
theorem zct {α:Type}[DecidableEq α]:∀{a b:List α},a.Nodup→(∀x∈a,x∈b)→a.length≤b.length
 |[],_,_,_=>Nat.zero_le _
 |x::a,b,hn,h=>by
  have hn':=List.nodup_cons.1 hn
  have h1:x∈b:=h x (by simp)
  have h2:=zct (a:=a) (b:=b.erase x) hn'.2 fun y hy=>(List.mem_erase_of_ne (fun e=>hn'.1 (by rw[←e];exact hy))).2 (h y (by simp[hy]))
  have h3:=List.length_erase_of_mem h1
  have h4:=List.length_pos_of_mem h1
  rw[List.length_cons];omega
structure okL (s:zar)(l:List Nat):Prop where
 d:(za5 s.pieces).Nodup
 n:l.Nodup
 e:l.length=(za5 s.pieces).length
 u:l.length+1=s.pieces.length
 b:∀x∈l,x<s.pieces.length
section
variable {s:zar} {l:List Nat}
theorem okL.g (h:okL s l):okG s.pieces.length (zbr s l) (zjl s l):=by
 have hlen:(zc4 s).length=l.length:=by rw[h.e,←zef,List.length_map]
 have hall:∀t (ht:t<(zc4 s).length),(za5 s.pieces)[t]'(by rw[←zef,List.length_map];exact ht)=((zc4 s)[t]).1:=fun t ht=>by
  simp only[←zef,List.getElem_map]
 have hup:∀t (ht:t<(zc4 s).length),(zlV s).getD t 0=((zc4 s)[t]).2:=fun t ht=>by
  unfold zlV
  rw[List.getD_eq_getElem?_getD,List.getElem?_map,List.getElem?_eq_getElem ht];rfl
 refine⟨fun i j hi=>?_,fun j i hj hp=>?_⟩
 ·unfold zbr
  rw[List.mem_map]
  constructor
  ·rintro⟨g,hg,e⟩
   obtain⟨t,ht,e2⟩:=List.getElem_of_mem (zgo.2 hg)
   have ht2:t<(za5 s.pieces).length:=by rw[←zef,List.length_map];exact ht
   have e3:(za5 s.pieces)[t]=g:=by rw[hall t ht,e2]
   have e4:(za5 s.pieces).idxOf g=t:=by rw[←e3];exact zmP h.d ht2
   have htl:t<l.length:=by omega
   have e5:l[t]=j:=by
    rw[←e]
    unfold inP
    rw[e4,List.getD_eq_getElem?_getD,List.getElem?_eq_getElem htl];rfl
   have hjl:j∈l:=by rw[←e5];exact List.getElem_mem htl
   refine⟨h.b j hjl,?_⟩
   unfold zjl
   rw[if_pos hjl]
   have e6:l.idxOf j=t:=by rw[←e5];exact zmP h.n htl
   rw[e6,hup t ht,e2]
  ·rintro⟨_,hp⟩
   unfold zjl at hp
   by_cases hjl:j∈l
   ·rw[if_pos hjl]at hp
    have htl:=List.idxOf_lt_length_of_mem hjl
    have ht:l.idxOf j<(zc4 s).length:=by omega
    have hp2:=Option.some.inj hp
    rw[hup _ ht]at hp2
    have hmem:(((zc4 s)[l.idxOf j]).1,i)∈zc4 s:=by rw[←hp2];exact List.getElem_mem ht
    refine⟨((zc4 s)[l.idxOf j]).1,zgo.1 hmem,?_⟩
    have ht2:l.idxOf j<(za5 s.pieces).length:=by rw[←h.e];exact htl
    unfold inP
    rw[←hall _ ht,zmP h.d ht2,List.getD_eq_getElem?_getD,List.getElem?_eq_getElem htl,Option.getD_some,List.getElem_idxOf htl]
   ·rw[if_neg hjl]at hp;cases hp
 ·unfold zjl at hp
  by_cases hjl:j∈l
  ·rw[if_pos hjl]at hp
   have htl:=List.idxOf_lt_length_of_mem hjl
   have ht:l.idxOf j<(zc4 s).length:=by omega
   have hp2:=Option.some.inj hp
   rw[hup _ ht]at hp2
   have hmem:(((zc4 s)[l.idxOf j]).1,i)∈zc4 s:=by rw[←hp2];exact List.getElem_mem ht
   have hh:=zgo.1 hmem
   refine Classical.byContradiction fun hc=>?_
   unfold zcn at hh
   rw[List.getElem?_eq_none (by omega)]at hh
   simp at hh
  ·rw[if_neg hjl]at hp;cases hp
theorem okL.t (h:okL s l):zdE s.pieces.length l<s.pieces.length∧zdE s.pieces.length l∉l∧∀i,i<s.pieces.length→i∉l→i=zdE s.pieces.length l:=by
 have hex:∃i,i<s.pieces.length∧i∉l:=by
  refine Classical.byContradiction fun hc=>?_
  have hsub:∀i∈List.range s.pieces.length,i∈l:=fun i hi=>Classical.byContradiction fun hn=>hc ⟨i,List.mem_range.1 hi,hn⟩
  have:=zct List.nodup_range hsub
  rw[List.length_range]at this
  have:=h.u
  omega
 obtain⟨t,ht,hf⟩:∃t,(List.range s.pieces.length).find? (fun i=> !decide (i∈l))=some t∧True:=by
  obtain⟨i,hi,hn⟩:=hex
  cases hfi:(List.range s.pieces.length).find? (fun i=> !decide (i∈l))with
  |none=>
   rw[List.find?_eq_none]at hfi
   have:=hfi i (List.mem_range.2 hi)
   simp[hn]at this
  |some t=>exact⟨t,rfl,trivial⟩
 have htp:zdE s.pieces.length l=t:=by unfold zdE;rw[ht];rfl
 have h1:t<s.pieces.length:=List.mem_range.1 (List.mem_of_find?_eq_some ht)
 have h2:t∉l:=by simpa using List.find?_some ht
 rw[htp]
 refine⟨h1,h2,fun i hi hn=>Classical.byContradiction fun hne=>?_⟩
 have hnd:(t::i::l).Nodup:=by
  refine List.nodup_cons.2 ⟨?_,List.nodup_cons.2 ⟨hn,h.n⟩⟩
  simp only[List.mem_cons,not_or]
  exact⟨fun e=>hne e.symm,h2⟩
 have hsub2:∀y∈(t::i::l),y∈List.range s.pieces.length:=fun y hy=>by
  simp only[List.mem_cons]at hy
  rcases hy with rfl|rfl|hy
  ·exact List.mem_range.2 h1
  ·exact List.mem_range.2 hi
  ·exact List.mem_range.2 (h.b y hy)
 have:=zct hnd hsub2
 rw[List.length_range]at this
 simp only[List.length_cons]at this
 have:=h.u
 omega
theorem okL.p (h:okL s l):zjl s l (zdE s.pieces.length l)=none:=by
 unfold zjl
 rw[if_neg h.t.2.1]
end
end Go.Abs
namespace Go.Abs
open Go
mutual
def zcw (g:Str→zac):zac→zac
 | .mk k nm ws s=>if k=10 then g nm else .mk k nm ws (zbo g s)
def zbo (g:Str→zac):List zac→List zac
 |[]=>[]
 |f::fs=>zcw g f::zbo g fs
end
theorem zet (g:Str→zac):∀l:List zac,zbo g l=l.map (zcw g)
 |[]=>by rw[zbo];rfl
 |f::l=>by rw[zbo,zet g l];rfl
mutual
theorem zhy {g g':Str→zac}:∀(f:zac),(∀h∈zau f,g h=g' h)→zcw g f=zcw g' f
 | .mk k nm ws s,h=>by
  rw[zau]at h
  rw[zcw,zcw]
  split
  ·rename_i hk;rw[if_pos hk]at h;exact h nm (by simp)
  ·rename_i hk;rw[if_neg hk]at h;rw[zgy s h]
theorem zgy {g g':Str→zac}:∀(fs:List zac),(∀h∈zaP fs,g h=g' h)→zbo g fs=zbo g' fs
 |[],_=>by rw[zbo,zbo]
 |f::fs,h=>by
  rw[zaP]at h
  rw[zbo,zbo,zhy f fun x hx=>h x (List.mem_append_left _ hx),zgy fs fun x hx=>h x (List.mem_append_right _ hx)]
end
def zdW (l:List Nat):Nat:=l.foldr (· +·) 0
theorem zh1:∀a b:List Nat,zdW (a++b)=zdW a+zdW b
 |[],b=>by simp[zdW]
 |x::a,b=>by
  have:=zh1 a b
  simp only[zdW,List.cons_append,List.foldr_cons]at this ⊢
  omega
mutual
theorem zi9 (g:Str→zac):∀f:zac,(zcw g f).size≤f.size+zdW ((zau f).map fun h=>(g h).size)
 | .mk k nm ws s=>by
  rw[zcw,zau]
  split
  ·simp[zdW]
  ·rw[zac.size,zac.size]
   have:=zhA g s
   omega
theorem zhA (g:Str→zac):∀fs:List zac,zac.sizes (zbo g fs)≤zac.sizes fs+zdW ((zaP fs).map fun h=>(g h).size)
 |[]=>by rw[zbo,zaP,zac.sizes];simp
 |f::fs=>by
  rw[zbo,zaP,zac.sizes,zac.sizes,List.map_append,zh1]
  have:=zi9 g f
  have:=zhA g fs
  omega
end
mutual
theorem zkl (g:Str→zac):∀f:zac,f.fit=true→(∀h∈zau f,(g h).fit=true)→(zcw g f).fit=true
 | .mk k nm ws s,hf,h=>by
  rw[zau]at h
  rw[zcw]
  split
  ·rename_i hk;rw[if_pos hk]at h;exact h nm (by simp)
  ·rename_i hk
   rw[if_neg hk]at h
   rw[zac.fit]at hf ⊢
   simp only[Bool.and_eq_true,decide_eq_true_eq]at hf ⊢
   refine⟨⟨hf.1.1,?_⟩,zja g s hf.2 h⟩
   rw[zet,List.length_map];exact hf.1.2
theorem zja (g:Str→zac):∀fs:List zac,zac.fits fs=true→(∀h∈zaP fs,(g h).fit=true)→zac.fits (zbo g fs)=true
 |[],_,_=>by rw[zbo];rfl
 |f::fs,hf,h=>by
  rw[zaP]at h
  rw[zac.fits,Bool.and_eq_true]at hf
  rw[zbo,zac.fits,Bool.and_eq_true]
  exact⟨zkl g f hf.1 fun x hx=>h x (List.mem_append_left _ hx),zja g fs hf.2 fun x hx=>h x (List.mem_append_right _ hx)⟩
end
def zbH (s:zar)(i:Nat):zac:=match s.pieces[i]? with|some p=>p.form|none=> .mk 0 ⟨[]⟩ [] []
theorem zbV (s:zar)(i:Nat):zcn s i=zau (zbH s i):=by
 unfold zcn zbH
 cases s.pieces[i]? with
 |none=>rfl
 |some p=>rfl
def zcv (s:zar)(l:List Nat):Nat→Nat→zac
 |0,_=> .mk 0 ⟨[]⟩ [] []
 |f+1,i=>zcw (fun h=>zcv s l f (inP s l h)) (zbH s i)
section
variable {n:Nat} {K:Nat→List Nat} {par:Nat→Option Nat}
theorem zuF {top:Nat}(h0:par top=none)(ht:∀j,j<n→∃k,k<n+1∧upP par k j=some top){i k:Nat}(hi:i<n):upP par (k+1) i≠some i:=fun h=>by
 obtain⟨a,_,ha⟩:=ht i hi
 have h2:upP par (k+1+a) i=some top:=by rw[zha,h];exact ha
 have:=zqm h0 h2 ha
 omega
theorem zfF (hG:okG n K par)(hK:∀i,i<n→(K i).Nodup){top:Nat}(h0:par top=none)(ht:∀j,j<n→∃k,k<n+1∧upP par k j=some top):∀(f i:Nat),i<n→(za2 K f i).Nodup
 |0,i,_=>by rw[za2];exact List.nodup_nil
 |f+1,i,hi=>by
  rw[za2]
  have hlt:∀c∈K i,c<n∧par c=some i:=fun c hc=>(hG.k i c hi).1 hc
  have hbl:∀(c:Nat),c<n→∀x∈za2 K f c,x<n:=fun c hc x hx=>by
   have key:∀(f c:Nat),c<n→∀x∈za2 K f c,x<n:=by
    intro f
    induction f with
    |zero=>intro c _ x hx;simp[za2]at hx
    |succ f ih=>
     intro c hc x hx
     rw[za2,List.mem_cons,List.mem_flatMap]at hx
     rcases hx with rfl|⟨d,hd,hx⟩
     ·exact hc
     ·exact ih d ((hG.k c d hc).1 hd).1 x hx
   exact key f c hc x hx
  refine List.nodup_cons.2 ⟨fun h=>?_,?_⟩
  ·obtain⟨c,hc,hx⟩:=List.mem_flatMap.1 h
   obtain⟨k,_,hu⟩:=(zd6 hG hi f c (hlt c hc).1).1 hx
   exact zuF h0 ht hi (by rw[zcW,hu];exact(hlt c hc).2)
  ·have key:∀cs:List Nat,cs.Nodup→(∀c∈cs,c∈K i)→(cs.flatMap (za2 K f)).Nodup:=by
    intro cs
    induction cs with
    |nil=>intro _ _;exact List.nodup_nil
    |cons c cs ih=>
     intro hn hm
     have hn':=List.nodup_cons.1 hn
     have hc:=hlt c (hm c (by simp))
     rw[List.flatMap_cons]
     refine List.nodup_append.2 ⟨zfF hG hK h0 ht f c hc.1,ih hn'.2 fun x hx=>hm x (by simp[hx]),fun x hx y hy e=>?_⟩
     subst e
     obtain⟨d,hd,hy⟩:=List.mem_flatMap.1 hy
     have hd2:=hlt d (hm d (by simp[hd]))
     have hxn:=hbl c hc.1 x hx
     obtain⟨a,_,ha⟩:=(zd6 hG hxn f c hc.1).1 hx
     obtain⟨b,_,hb⟩:=(zd6 hG hxn f d hd2.1).1 hy
     have ha2:upP par (a+1) x=some i:=by rw[zcW,ha];exact hc.2
     have hb2:upP par (b+1) x=some i:=by rw[zcW,hb];exact hd2.2
     obtain⟨t,_,hu⟩:=ht i hi
     have e1:upP par (a+1+t) x=some top:=by rw[zha,ha2];exact hu
     have e2:upP par (b+1+t) x=some top:=by rw[zha,hb2];exact hu
     have e3:=zqm h0 e1 e2
     have e4:a=b:=by omega
     subst e4
     rw[ha]at hb
     have e5:c=d:=Option.some.inj hb
     subst e5
     exact hn'.1 hd
   exact key (K i) (hK i hi) fun c hc=>hc
end
end Go.Abs
namespace Go.Abs
open Go
def nP (s:zar):Nat:=s.pieces.length
def zAI (s:zar)(x:Str):Nat:=(zaK s.pieces).idxOf x
def zcx (s:zar)(l:List Nat):Bool:=(List.range (nP s)).all fun j=>zfP (zjl s l) (zdE (nP s) l) (nP s+1) j
def zgX (s:zar)(l:List Nat)(o:znX):Bool:=zfP (zjl s l) (inP s l o.hole) (nP s+1) (zAI s o.label)
def zcz (s:zar)(l:List Nat):zac:=zcv s l (nP s+1) (zdE (nP s) l)
def zvc (s:zar)(l:List Nat)(v:Str):Bool:= !decide (v∈cst (zcz s l) [])
def okS (s:zar)(l:List Nat):Bool:=zcx s l&&s.overs.all (zgX s l)&&s.vars.all (zvc s l)
def zex (s:zar):Nat→List Bool→List Nat→List (List Nat)
 |0,_,l=>if okS s l=true then[l]else[]
 |r+1,used,l=>(List.range (nP s)).flatMap fun i=>if used.getD i false=true then[]else zex s r (used.set i true) (l++[i])
def zdy (s:zar):List (List Nat):=if(za5 s.pieces).length+1≠nP s then[]else zex s (za5 s.pieces).length (List.replicate (nP s) false) []
theorem zoc {l:List Bool}{i j:Nat}(h:i≠j):(l.set i true).getD j false=l.getD j false:=by
 rw[List.getD_eq_getElem?_getD,List.getElem?_set_ne h,←List.getD_eq_getElem?_getD]
theorem ziN {s:zar}{x:List Nat}:∀(r:Nat) (used:List Bool) (l:List Nat),used.length=nP s→(x∈zex s r used l↔∃t,x=l++t∧t.length=r∧t.Nodup∧(∀i∈t,i<nP s∧used.getD i false=false)∧okS s x=true)
 |0,used,l,_=>by
  rw[zex]
  constructor
  ·intro h
   split at h
   ·rename_i hk
    rw[List.mem_singleton.1 h]
    exact⟨[],by simp,rfl,List.nodup_nil,by simp,hk⟩
   ·simp at h
  ·rintro⟨t,rfl,ht,_,_,hk⟩
   obtain rfl:=List.eq_nil_of_length_eq_zero ht
   rw[List.append_nil]at hk ⊢
   rw[if_pos hk];simp
 |r+1,used,l,hu=>by
  rw[zex,List.mem_flatMap]
  constructor
  ·rintro⟨i,hi,hx⟩
   have hin:=List.mem_range.1 hi
   split at hx
   ·simp at hx
   ·rename_i hf
    obtain⟨t,rfl,ht,hn,hb,hk⟩:=(ziN r (used.set i true) (l++[i]) (by rw[List.length_set];exact hu)).1 hx
    refine⟨i::t,by simp,by simp[ht],List.nodup_cons.2 ⟨fun h=>?_,hn⟩,fun j hj=>?_,hk⟩
    ·have:=(hb i h).2
     rw[zdx (by omega)]at this
     cases this
    ·rcases List.mem_cons.1 hj with rfl|hj
     ·exact⟨hin,by simpa using hf⟩
     ·have h2:=hb j hj
      have hne:i≠j:=fun e=>by
       subst e
       rw[zdx (by omega)]at h2
       cases h2.2
      exact⟨h2.1,by rw[←zoc hne];exact h2.2⟩
  ·rintro⟨t,rfl,ht,hn,hb,hk⟩
   cases t with
   |nil=>simp at ht
   |cons i t=>
    have hn':=List.nodup_cons.1 hn
    have hi:=hb i (by simp)
    refine⟨i,List.mem_range.2 hi.1,?_⟩
    rw[if_neg (by simp only[hi.2,Bool.false_eq_true,not_false_eq_true])]
    refine(ziN r (used.set i true) (l++[i]) (by rw[List.length_set];exact hu)).2 ⟨t,by simp,by simpa using ht,hn'.2,fun j hj=>?_,hk⟩
    have hne:i≠j:=fun e=>hn'.1 (e▸hj)
    exact⟨(hb j (by simp[hj])).1,by rw[zoc hne];exact(hb j (by simp[hj])).2⟩
theorem ziM {s:zar}{x:List Nat}:x∈zdy s↔(za5 s.pieces).length+1=nP s∧x.length=(za5 s.pieces).length∧x.Nodup∧(∀i∈x,i<nP s)∧okS s x=true:=by
 unfold zdy
 split
 ·rename_i h
  simp only[List.not_mem_nil,false_iff]
  exact fun h2=>h h2.1
 ·rename_i h
  have h':=Decidable.not_not.1 h
  rw[ziN _ _ _ (List.length_replicate ..)]
  constructor
  ·rintro⟨t,e,h1,h2,h3,h4⟩
   rw[List.nil_append]at e
   subst e
   exact⟨h',h1,h2,fun i hi=>(h3 i hi).1,h4⟩
  ·rintro⟨_,h1,h2,h3,h4⟩
   exact⟨x,by simp,h1,h2,fun i hi=>⟨h3 i hi,zk6⟩,h4⟩
theorem zjS:∀{hs all:List Str},zom all hs=false→all.Nodup→(all++hs).Nodup
 |[],all,_,h=>by rw[List.append_nil];exact h
 |x::hs,all,h,hn=>by
  rw[zom,Bool.or_eq_false_iff]at h
  have h1:x∉all:=by simpa using h.1
  have h2:=zjS (hs:=hs) (all:=all++[x]) h.2 (List.nodup_append.2 ⟨hn,by simp,fun a ha b hb e=>by
   rw[List.mem_singleton.1 hb]at e;exact h1 (e▸ha)⟩)
  rwa [List.append_assoc,List.singleton_append]at h2
theorem zp4:∀{ps:List zb8} {l a:List Str} {i:Nat},(zgv l a ps i).code=0→l.Nodup→a.Nodup→(l++zaK ps).Nodup∧(a++za5 ps).Nodup∧∀p∈ps,(zaV true p.form).code=0
 |[],l,a,i,_,h1,h2=>⟨by simpa[zaK]using h1,by simpa[za5]using h2,by simp⟩
 |p::ps,l,a,i,h,h1,h2=>by
  rw[zgv]at h
  by_cases hp:zcD l a p=0
  ·rw[if_neg (by simp[hp])]at h
   unfold zcD at hp
   split at hp
   ·exact absurd hp (by decide)
   ·split at hp
    ·exact absurd hp (by decide)
    ·rename_i hlab
     split at hp
     ·rename_i hc;exact absurd hp hc
     ·rename_i hc
      split at hp
      ·exact absurd hp (by decide)
      ·rename_i hd
       obtain⟨k1,k2,k3⟩:=zp4 h (List.nodup_append.2 ⟨h1,by simp,fun x hx y hy e=>by rw[List.mem_singleton.1 hy]at e;exact hlab (e▸hx)⟩) (zjS (by simpa using hd) h2)
       refine⟨?_,?_,fun q hq=>?_⟩
       ·rw[List.append_assoc]at k1;exact k1
       ·rw[List.append_assoc]at k2;exact k2
       ·rcases List.mem_cons.1 hq with rfl|hq
        ·exact Decidable.not_not.1 hc
        ·exact k3 q hq
  ·rw[if_pos hp]at h
   exact absurd h hp
structure ze3 (s:zar):Prop where
 n1:1≤nP s
 n6:nP s≤6
 lab:(zaK s.pieces).Nodup
 hol:(za5 s.pieces).Nodup
 chk:∀p∈s.pieces,(zaV true p.form).code=0
 nod:zcu s.pieces≤200
 ov:s.overs.length≤300
 ovs:∀o∈s.overs,o.hole∈za5 s.pieces∧o.label∈zaK s.pieces
 vs:s.vars.length≤6
theorem zp5 {s:zar}(h:(zaZ s).code=0):ze3 s:=by
 unfold zaZ at h
 split at h
 ·exact absurd h (by decide)
 rename_i h1
 split at h
 ·rename_i h2;exact absurd h h2
 rename_i h2
 split at h
 ·exact absurd h (by decide)
 rename_i h3
 split at h
 ·exact absurd h (by decide)
 rename_i h4
 split at h
 ·exact absurd h (by decide)
 rename_i h5
 split at h
 ·exact absurd h (by decide)
 rename_i h6
 obtain⟨k1,k2,k3⟩:=zp4 (Decidable.not_not.1 h2) List.nodup_nil List.nodup_nil
 refine⟨by unfold nP;omega,by unfold nP;omega,by simpa using k1,by simpa using k2,k3,by omega,by omega,fun o ho=>?_,by omega⟩
 have h7:s.overs.all (zbn (zaK s.pieces) (za5 s.pieces))=true:=by simpa using h5
 have h8:=List.all_eq_true.1 h7 o ho
 unfold zbn at h8
 simpa using h8
theorem zCP {s:zar}(h:ze3 s){l:List Nat}(h1:(za5 s.pieces).length+1=nP s)(h2:l.length=(za5 s.pieces).length)(h3:l.Nodup)(h4:∀i∈l,i<nP s):okL s l:=
 ⟨h.hol,h3,h2,by unfold nP at h1;omega,h4⟩
theorem zfb {s:zar}{l:List Nat}(h:zcx s l=true):∀j,j<nP s→∃k,k<nP s+1∧upP (zjl s l) k j=some (zdE (nP s) l):=fun j hj=>by
 have h1:=List.all_eq_true.1 h j (List.mem_range.2 hj)
 exact(zfm _ _).1 h1
theorem zoG {s:zar}{l:List Nat}(h:okL s l){x:Str}(hx:x∈za5 s.pieces):inP s l x<nP s:=by
 have h1:=List.idxOf_lt_length_of_mem hx
 unfold inP
 rw[List.getD_eq_getElem?_getD,List.getElem?_eq_getElem (by rw[h.e];exact h1)]
 exact h.b _ (List.getElem_mem _)
theorem zqF {s:zar}{l:List Nat}(h:okL s l){a b:Nat}(ha:a<nP s)(hb:b<nP s):(b∈za2 (zbr s l) (nP s+1) a)↔zfP (zjl s l) a (nP s+1) b=true:=by
 rw[zd6 h.g hb _ a ha,zfm]
end Go.Abs
namespace Go.Abs
open Go
theorem zkn {α:Type}[DecidableEq α](g:α→Nat){x:α}:∀{b:List α},x∈b→zdW (b.map g)=g x+zdW ((b.erase x).map g)
 |[],h=>by simp at h
 |y::b,h=>by
  rw[List.erase_cons]
  by_cases e:y=x
  ·subst e
   simp[zdW]
  ·rw[if_neg (by simpa using e)]
   rcases List.mem_cons.1 h with h2|h2
   ·exact absurd h2.symm e
   ·have:=zkn g h2
    simp only[List.map_cons,zdW,List.foldr_cons]at this ⊢
    omega
theorem zlJ {α:Type}[DecidableEq α](g:α→Nat):∀{a b:List α},a.Nodup→(∀x∈a,x∈b)→zdW (a.map g)≤zdW (b.map g)
 |[],_,_,_=>by simp[zdW]
 |x::a,b,hn,h=>by
  have hn':=List.nodup_cons.1 hn
  have h1:=zkn g (h x (by simp))
  have h2:=zlJ g (a:=a) (b:=b.erase x) hn'.2 fun y hy=>(List.mem_erase_of_ne (fun e=>hn'.1 (by rw[←e];exact hy))).2 (h y (by simp[hy]))
  simp only[List.map_cons,zdW,List.foldr_cons]at h1 h2 ⊢
  omega
theorem zny:∀ps:List zb8,zac.sizes (ps.map (·.form))=zdW ((List.range ps.length).map fun i=>(match ps[i]? with|some p=>p.form|none=>zac.mk 0 ⟨[]⟩ [] []).size)
 |[]=>by simp[zac.sizes,zdW]
 |p::ps=>by
  have h:=zny ps
  rw[List.map_cons,zac.sizes,h,List.length_cons,List.range_succ_eq_map,List.map_cons,List.map_map]
  simp[zdW,Function.comp_def]
theorem zjX {α β:Type}{g:α→List β}:∀{l:List α},(l.flatMap g).Nodup→∀{x:α},x∈l→(g x).Nodup
 |[],_,x,hx=>by simp at hx
 |y::l,h,x,hx=>by
  rw[List.flatMap_cons]at h
  have h2:=List.nodup_append.1 h
  rcases List.mem_cons.1 hx with rfl|hx
  ·exact h2.1
  ·exact zjX h2.2.1 hx
theorem zjc {α:Type}(g:Nat→List α)(w:α→Nat):∀l:List Nat,zdW ((l.flatMap g).map w)=zdW (l.map fun x=>zdW ((g x).map w))
 |[]=>rfl
 |x::l=>by
  rw[List.flatMap_cons,List.map_append,zh1,zjc g w l]
  simp[zdW]
theorem zuv {α:Type}{g w:α→Nat}:∀{l:List α},(∀x∈l,g x≤w x)→zdW (l.map g)≤zdW (l.map w)
 |[],_=>by simp[zdW]
 |x::l,h=>by
  have h1:=h x (by simp)
  have h2:=zuv (l:=l) fun y hy=>h y (by simp[hy])
  simp only[List.map_cons,zdW,List.foldr_cons]at h2 ⊢
  omega
section
variable {s:zar} {l:List Nat}
theorem zdK {i:Nat}{x:Str}(h:x∈zcn s i):x∈za5 s.pieces:=by
 rw[←zef]
 exact List.mem_map.2 ⟨(x,i),zgo.2 h,rfl⟩
theorem zj9 (h:okL s l):∀(f i:Nat),i<nP s→(∀j,j<nP s→upP (zjl s l) f j≠some i)→zcv s l (f+1) i=zcv s l f i
 |0,i,hi,hn=>absurd rfl (hn i hi)
 |f+1,i,hi,hn=>by
  rw[zcv,zcv]
  refine zhy _ fun x hx=>?_
  rw[←zbV]at hx
  have hc:inP s l x∈zbr s l i:=List.mem_map_of_mem hx
  obtain⟨hcn,hp⟩:=(h.g.k i _ hi).1 hc
  exact zj9 h f _ hcn fun j hj hu=>hn j hj (by rw[zcW,hu];exact hp)
theorem zpY (h:okL s l)(ht:zcx s l=true){i:Nat}(hi:i<nP s):zcv s l (nP s+1) i=zcw (fun x=>zcv s l (nP s+1) (inP s l x)) (zbH s i):=by
 rw[←zj9 h (nP s+1) i hi fun j hj=>zfr h.p (zfb ht) hi hj,zcv]
theorem zj8 (h:okL s l):∀(f i:Nat),i<nP s→(∀j,j<nP s→upP (zjl s l) f j≠some i)→(zcv s l f i).size≤zdW ((za2 (zbr s l) f i).map fun j=>(zbH s j).size)
 |0,i,hi,hn=>absurd rfl (hn i hi)
 |f+1,i,hi,hn=>by
  rw[zcv,za2]
  refine Nat.le_trans (zi9 _ _) ?_
  rw[List.map_cons]
  have hfl:=zjc (za2 (zbr s l) f) (fun j=>(zbH s j).size) (zbr s l i)
  have key:zdW ((zau (zbH s i)).map fun x=>(zcv s l f (inP s l x)).size)≤zdW ((zbr s l i).map fun c=>zdW ((za2 (zbr s l) f c).map fun j=>(zbH s j).size)):=by
   unfold zbr
   rw[List.map_map,←zbV]
   refine zuv fun x hx=>?_
   have hc:inP s l x∈zbr s l i:=List.mem_map_of_mem hx
   obtain⟨hcn,hp⟩:=(h.g.k i _ hi).1 hc
   exact zj8 h f _ hcn fun j hj hu=>hn j hj (by rw[zcW,hu];exact hp)
  rw[←hfl]at key
  simp only[zdW,List.foldr_cons]at key ⊢
  omega
theorem zj2 (h:okL s l){i:Nat}(hi:i<nP s):(zbr s l i).Nodup:=by
 unfold zbr
 have hn:(zcn s i).Nodup:=by
  have h1:(za5 s.pieces).Nodup:=h.d
  unfold za5 at h1
  rw[zfK]at h1
  exact zjX h1 (List.mem_range.2 hi)
 have key:∀xs:List Str,xs.Nodup→(∀x∈xs,x∈za5 s.pieces)→(xs.map (inP s l)).Nodup:=by
  intro xs
  induction xs with
  |nil=>intro _ _;exact List.nodup_nil
  |cons x xs ih=>
   intro hn hm
   have hn':=List.nodup_cons.1 hn
   rw[List.map_cons]
   refine List.nodup_cons.2 ⟨fun hx=>?_,ih hn'.2 fun y hy=>hm y (by simp[hy])⟩
   obtain⟨y,hy,e⟩:=List.mem_map.1 hx
   have h1:=List.idxOf_lt_length_of_mem (hm x (by simp))
   have h2:=List.idxOf_lt_length_of_mem (hm y (by simp[hy]))
   unfold inP at e
   rw[List.getD_eq_getElem?_getD,List.getD_eq_getElem?_getD,List.getElem?_eq_getElem (by rw[h.e];exact h2),List.getElem?_eq_getElem (by rw[h.e];exact h1)]at e
   have e2:=zmP h.n (show(za5 s.pieces).idxOf y<l.length by rw[h.e];exact h2)
   have e3:=zmP h.n (show(za5 s.pieces).idxOf x<l.length by rw[h.e];exact h1)
   have e4:(za5 s.pieces).idxOf y=(za5 s.pieces).idxOf x:=by
    rw[←e2,←e3]
    exact congrArg l.idxOf e
   have e5:y=x:=by
    rw[←List.getElem_idxOf h2,←List.getElem_idxOf h1]
    simp only[e4]
   exact hn'.1 (e5▸hy)
 exact key _ hn fun x hx=>zdK hx
theorem zna (s:zar):zcu s.pieces=zdW ((List.range (nP s)).map fun i=>(zbH s i).size):=zny s.pieces
theorem zkK (h:okL s l):∀(f i:Nat),i<nP s→∀x∈za2 (zbr s l) f i,x<nP s
 |0,i,_,x,hx=>by simp[za2]at hx
 |f+1,i,hi,x,hx=>by
  rw[za2,List.mem_cons,List.mem_flatMap]at hx
  rcases hx with rfl|⟨c,hc,hx⟩
  ·exact hi
  ·exact zkK h f c ((h.g.k i c hi).1 hc).1 x hx
theorem zoP (h:okL s l)(ht:zcx s l=true){i:Nat}(hi:i<nP s):(zcv s l (nP s+1) i).size≤zcu s.pieces:=by
 refine Nat.le_trans (zj8 h _ i hi fun j hj=>zfr h.p (zfb ht) hi hj) ?_
 rw[zna]
 refine zlJ _ (zfF h.g (fun i hi=>zj2 h hi) h.p (zfb ht) _ i hi) fun x hx=>?_
 exact List.mem_range.2 (zkK h _ i hi x hx)
end
end Go.Abs
