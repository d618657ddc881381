/- several texts of this proof in one; no conditions -/
import Derived.Test.YtmconmiemdinkaaGreatDoorY15
set_option linter.unusedSimpArgs false
namespace Go.Abs
open Go
structure okG (n:Nat)(K:Nat→List Nat)(par:Nat→Option Nat):Prop where
 k:∀i j,i<n→(j∈K i↔(j<n∧par j=some i))
 p:∀j i,j<n→par j=some i→i<n
def upP (par:Nat→Option Nat):Nat→Nat→Option Nat
 |0,j=>some j
 |k+1,j=>(par j).bind (upP par k)
def zki (par:Nat→Option Nat)(a:Nat):Nat→Nat→Bool
 |0,_=>false
 |m+1,b=>decide (b=a)||match par b with|none=>false|some c=>zki par a m c
def zg6 (K:Nat→List Nat):Nat→List Bool→Nat→List Bool
 |0,seen,_=>seen
 |f+1,seen,i=>if seen.getD i false=true then seen else(K i).foldl (fun sn c=>zg6 K f sn c) (seen.set i true)
def zaW (K:Nat→List Nat):Nat→Nat→List Nat
 |0,_=>[]
 |f+1,i=>i::(K i).flatMap (zaW K f)
def zgj (seen:List Bool):Nat:=(seen.filter (fun b=> !b)).length
section
variable {n:Nat} {K:Nat→List Nat} {par:Nat→Option Nat}
theorem zgz:∀(a b j:Nat),upP par (a+b) j=(upP par a j).bind (upP par b)
 |0,b,j=>by rw[Nat.zero_add];rfl
 |a+1,b,j=>by
  rw[show a+1+b=(a+b)+1 by omega,upP,upP]
  cases par j with
  |none=>rfl
  |some i=>exact zgz a b i
theorem zcl (k j:Nat):upP par (k+1) j=(upP par k j).bind par:=by
 rw[zgz k 1 j]
 congr 1
 funext i
 rw[upP]
 cases par i<;>rfl
theorem zwM (hG:okG n K par):∀(k:Nat) {j i:Nat},j<n→upP par k j=some i→i<n
 |0,j,i,hj,h=>by
  have e:j=i:=Option.some.inj h
  omega
 |k+1,j,i,hj,h=>by
  rw[upP]at h
  cases hp:par j with
  |none=>rw[hp]at h;cases h
  |some c=>
   rw[hp]at h
   exact zwM hG k (hG.p j c hj hp) h
theorem zdo {a:Nat}:∀(m b:Nat),zki par a m b=true↔∃k,k<m∧upP par k b=some a
 |0,b=>by simp[zki]
 |m+1,b=>by
  rw[zki]
  simp only[Bool.or_eq_true,decide_eq_true_eq]
  constructor
  ·rintro(h|h)
   ·exact⟨0,by omega,by rw[upP,h]⟩
   ·cases hp:par b with
    |none=>rw[hp]at h;cases h
    |some c=>
     rw[hp]at h
     obtain⟨k,hk,hu⟩:=(zdo m c).1 h
     exact⟨k+1,by omega,by rw[upP,hp];exact hu⟩
  ·rintro⟨k,hk,hu⟩
   cases k with
   |zero=>exact .inl (Option.some.inj hu)
   |succ k=>
    rw[upP]at hu
    cases hp:par b with
    |none=>rw[hp]at hu;cases hu
    |some c=>
     rw[hp]at hu
     exact .inr ((zdo m c).2 ⟨k,by omega,hu⟩)
theorem zhV:∀{seen:List Bool} {i:Nat},i<seen.length→seen.getD i false=false→zgj (seen.set i true)+1=zgj seen
 |[],i,h,_=>by simp at h
 |b::l,0,_,h=>by
  simp only[List.getD_cons_zero]at h
  subst h
  simp[zgj]
 |b::l,i+1,h,h2=>by
  have h3:=zhV (seen:=l) (i:=i) (by simpa using h) (by simpa using h2)
  rw[List.set_cons_succ]
  unfold zgj at h3 ⊢
  rw[List.filter_cons,List.filter_cons]
  cases b<;>simp<;>omega
theorem zgk:∀{a b:List Bool},a.length=b.length→(∀j,a.getD j false=true→b.getD j false=true)→zgj b≤zgj a
 |[],[],_,_=>Nat.le_refl _
 |[],_::_,h,_=>by simp at h
 |_::_,[],h,_=>by simp at h
 |x::a,y::b,h,h2=>by
  have h3:=zgk (a:=a) (b:=b) (by simpa using h) fun j hj=>by have:=h2 (j+1) (by simpa using hj);simpa using this
  have h4:=h2 0
  simp only[List.getD_cons_zero]at h4
  unfold zgj at h3 ⊢
  rw[List.filter_cons,List.filter_cons]
  cases x<;>cases y<;>simp_all<;>omega
structure zHG (n:Nat)(K:Nat→List Nat)(par:Nat→Option Nat)(f:Nat)(seen r:List Bool)(i:Nat):Prop where
 l:r.length=n
 u:∀j,seen.getD j false=true→r.getD j false=true
 m:r.getD i false=true
 c:∀j,j<n→r.getD j false=true→seen.getD j false=false→∀c∈K j,r.getD c false=true
 w:∀j,j<n→r.getD j false=true→seen.getD j false=true∨∃k,k<f∧upP par k j=some i
theorem zc9 {l:List Bool}{i:Nat}(h:i<l.length):(l.set i true).getD i false=true:=by
 rw[List.getD_eq_getElem?_getD,List.getElem?_set_self h];rfl
theorem znB {l:List Bool}{i j:Nat}(h:l.getD j false=true):(l.set i true).getD j false=true:=by
 by_cases e:i=j
 ·subst e
  have h2:i<l.length:=by
   refine Classical.byContradiction fun hc=>?_
   rw[List.getD_eq_getElem?_getD,List.getElem?_eq_none (by omega)]at h
   cases h
  exact zc9 h2
 ·rw[List.getD_eq_getElem?_getD,List.getElem?_set_ne e,←List.getD_eq_getElem?_getD];exact h
theorem zfN {l:List Bool}{i j:Nat}(h:(l.set i true).getD j false=true):j=i∨l.getD j false=true:=by
 by_cases e:i=j
 ·exact .inl e.symm
 ·rw[List.getD_eq_getElem?_getD,List.getElem?_set_ne e,←List.getD_eq_getElem?_getD]at h;exact .inr h
theorem zhf (hG:okG n K par):∀(f:Nat) (seen:List Bool) (i:Nat),seen.length=n→i<n→zgj seen<f→zHG n K par f seen (zg6 K f seen i) i
 |0,seen,i,_,_,h=>by omega
 |f+1,seen,i,hl,hi,hf=>by
  rw[zg6]
  by_cases hs:seen.getD i false=true
  ·rw[if_pos hs]
   exact⟨hl,fun j h=>h,hs,fun j _ h h2=>(by rw[h]at h2;cases h2),fun j _ h=> .inl h⟩
  ·rw[if_neg hs]
   have hs':seen.getD i false=false:=by simpa using hs
   have h1:=zhV (seen:=seen) (i:=i) (by omega) hs'
   have hkid:∀c∈K i,c<n∧par c=some i:=fun c hc=>(hG.k i c hi).1 hc
   suffices key:∀(cs:List Nat) (sn:List Bool),(∀c∈cs,c<n∧par c=some i)→sn.length=n→(∀j,(seen.set i true).getD j false=true→sn.getD j false=true)→(∀j,j<n→sn.getD j false=true→(seen.set i true).getD j false=false→∀c∈K j,sn.getD c false=true)→(∀j,j<n→sn.getD j false=true→(seen.set i true).getD j false=true∨∃k,k<f+1∧upP par k j=some i)→
     (cs.foldl (fun sn c=>zg6 K f sn c) sn).length=n∧(∀j,sn.getD j false=true→(cs.foldl (fun sn c=>zg6 K f sn c) sn).getD j false=true)∧(∀c∈cs,(cs.foldl (fun sn c=>zg6 K f sn c) sn).getD c false=true)∧
     (∀j,j<n→(cs.foldl (fun sn c=>zg6 K f sn c) sn).getD j false=true→(seen.set i true).getD j false=false→∀c∈K j,(cs.foldl (fun sn c=>zg6 K f sn c) sn).getD c false=true)∧
     (∀j,j<n→(cs.foldl (fun sn c=>zg6 K f sn c) sn).getD j false=true→(seen.set i true).getD j false=true∨∃k,k<f+1∧upP par k j=some i) by
    obtain⟨k1,k2,k3,k4,k5⟩:=key (K i) (seen.set i true) hkid (by rw[List.length_set];exact hl) (fun j h=>h) (fun j _ h h2=>by rw[h]at h2;cases h2) (fun j _ h=> .inl h)
    have hset:∀j,seen.getD j false=false→j≠i→(seen.set i true).getD j false=false:=fun j h1 h2=>by
     cases h3:(seen.set i true).getD j false with
     |false=>rfl
     |true=>
      rcases zfN h3 with h4|h4
      ·exact absurd h4 h2
      ·rw[h4]at h1;cases h1
    refine⟨k1,fun j h=>k2 j (znB h),k2 i (zc9 (by omega)),fun j hj h h2=>?_,fun j hj h=>?_⟩
    ·by_cases e:j=i
     ·subst e;exact k3
     ·exact k4 j hj h (hset j h2 e)
    ·rcases k5 j hj h with h2|h2
     ·rcases zfN h2 with rfl|h3
      ·exact .inr ⟨0,by omega,rfl⟩
      ·exact .inl h3
     ·exact .inr h2
   intro cs
   induction cs with
   |nil=>
    intro sn _ h2 h3 h4 h5
    exact⟨h2,fun j h=>h,fun c hc=>by simp at hc,h4,h5⟩
   |cons c cs ih=>
    intro sn hc h2 h3 h4 h5
    have hcc:=hc c (by simp)
    have hfr:zgj sn<f:=by
     have:=zgk (a:=seen.set i true) (b:=sn) (by rw[List.length_set,hl,h2]) h3
     omega
    have hd:=zhf hG f sn c h2 hcc.1 hfr
    rw[List.foldl_cons]
    obtain⟨g1,g2,g3,g4,g5⟩:=ih (zg6 K f sn c) (fun x hx=>hc x (by simp[hx])) hd.l (fun j h=>hd.u j (h3 j h)) (fun j hj h h6 x hx=>by
     cases h7:sn.getD j false with
     |true=>exact hd.u x (h4 j hj h7 h6 x hx)
     |false=>exact hd.c j hj h h7 x hx) (fun j hj h=>by
     rcases hd.w j hj h with h6|⟨k,hk,hu⟩
     ·exact h5 j hj h6
     ·exact .inr ⟨k+1,by omega,by rw[zcl,hu];exact hcc.2⟩)
    refine⟨g1,fun j h=>g2 j (hd.u j h),fun x hx=>?_,g4,g5⟩
    rcases List.mem_cons.1 hx with rfl|hx
    ·exact g2 x hd.m
    ·exact g3 x hx
theorem zfM:∀n:Nat,zgj (List.replicate n false)=n
 |0=>rfl
 |n+1=>by
  have:=zfM n
  unfold zgj at this ⊢
  rw[List.replicate_succ,List.filter_cons]
  simp[this]
theorem zka {n j:Nat}:(List.replicate n false).getD j false=false:=by
 rw[List.getD_eq_getElem?_getD,List.getElem?_replicate]
 split<;>rfl
theorem zvN (hG:okG n K par){top:Nat}(ht:top<n):(zg6 K (n+1) (List.replicate n false) top).contains false=false↔∀j,j<n→zki par top (n+1) j=true:=by
 have h:=zhf hG (n+1) (List.replicate n false) top (List.length_replicate ..) ht (by rw[zfM];omega)
 obtain⟨r,hr⟩:∃r,zg6 K (n+1) (List.replicate n false) top=r:=⟨_,rfl⟩
 rw[hr]at h ⊢
 have hall:(r.contains false=false)↔∀j,j<n→r.getD j false=true:=by
  constructor
  ·intro h1 j hj
   have h2:j<r.length:=by rw[h.l];exact hj
   rw[List.getD_eq_getElem?_getD,List.getElem?_eq_getElem h2]
   cases h3:r[j]with
   |true=>rfl
   |false=>
    have:r.contains false=true:=by rw[List.contains_iff_mem];rw[←h3];exact List.getElem_mem h2
    rw[this]at h1;cases h1
  ·intro h1
   cases h2:r.contains false with
   |false=>rfl
   |true=>
    rw[List.contains_iff_mem]at h2
    obtain⟨j,hj,e⟩:=List.getElem_of_mem h2
    have h3:=h1 j (by rw[←h.l];exact hj)
    rw[List.getD_eq_getElem?_getD,List.getElem?_eq_getElem hj,e]at h3
    cases h3
 rw[hall]
 constructor
 ·intro h1 j hj
  rcases h.w j hj (h1 j hj)with h2|⟨k,hk,hu⟩
  ·rw[zka]at h2;cases h2
  ·exact(zdo _ _).2 ⟨k,hk,hu⟩
 ·intro h1 j hj
  obtain⟨k,_,hu⟩:=(zdo _ _).1 (h1 j hj)
  have key:∀(k j:Nat),j<n→upP par k j=some top→r.getD j false=true:=by
   intro k
   induction k with
   |zero=>intro j _ h2;rw[Option.some.inj h2];exact h.m
   |succ k ih=>
    intro j hj h2
    rw[upP]at h2
    cases hp:par j with
    |none=>rw[hp]at h2;cases h2
    |some c=>
     rw[hp]at h2
     have hc:=hG.p j c hj hp
     exact h.c c hc (ih c hc h2) zka j ((hG.k c j hc).2 ⟨hj,hp⟩)
  exact key k j hj hu
theorem zdE (hG:okG n K par){x:Nat}(hx:x<n):∀(f i:Nat),i<n→(x∈zaW K f i↔∃k,k<f∧upP par k x=some i)
 |0,i,_=>by simp[zaW]
 |f+1,i,hi=>by
  rw[zaW,List.mem_cons,List.mem_flatMap]
  constructor
  ·rintro(rfl|⟨c,hc,h⟩)
   ·exact⟨0,by omega,rfl⟩
   ·obtain⟨hcn,hp⟩:=(hG.k i c hi).1 hc
    obtain⟨k,hk,hu⟩:=(zdE hG hx f c hcn).1 h
    exact⟨k+1,by omega,by rw[zcl,hu];exact hp⟩
  ·rintro⟨k,hk,hu⟩
   cases k with
   |zero=>exact .inl (Option.some.inj hu)
   |succ k=>
    rw[zcl]at hu
    cases hc:upP par k x with
    |none=>rw[hc]at hu;cases hu
    |some c=>
     rw[hc]at hu
     have hcn:=zwM hG k hx hc
     exact .inr ⟨c,(hG.k i c hi).2 ⟨hcn,hu⟩,(zdE hG hx f c hcn).2 ⟨k,by omega,hc⟩⟩
theorem zi1 (hG:okG n K par):∀(f i:Nat),i<n→(∀j,j<n→upP par f j≠some i)→zaW K (f+1) i=zaW K f i
 |0,i,hi,h=>absurd rfl (h i hi)
 |f+1,i,hi,h=>by
  rw[zaW,zaW]
  congr 1
  refine congrArg List.flatten (List.map_congr_left fun c hc=>?_)|>fun e=>by simpa[List.flatMap]using e
  obtain⟨hcn,hp⟩:=(hG.k i c hi).1 hc
  exact zi1 hG f c hcn fun j hj hu=>h j hj (by rw[zcl,hu];exact hp)
theorem zpi {top:Nat}(h0:par top=none):∀{a b j:Nat},upP par a j=some top→upP par b j=some top→a=b
 |0,0,_,_,_=>rfl
 |0,b+1,j,h1,h2=>by
  obtain rfl:j=top:=Option.some.inj h1
  rw[upP,h0]at h2;cases h2
 |a+1,0,j,h1,h2=>by
  obtain rfl:j=top:=Option.some.inj h2
  rw[upP,h0]at h1;cases h1
 |a+1,b+1,j,h1,h2=>by
  rw[upP]at h1 h2
  cases hp:par j with
  |none=>rw[hp]at h1;cases h1
  |some c=>
   rw[hp]at h1 h2
   rw[zpi h0 h1 h2]
theorem zeV {top:Nat}(h0:par top=none)(ht:∀j,j<n→∃k,k<n+1∧upP par k j=some top){i j:Nat}(hi:i<n)(hj:j<n):upP par (n+1) j≠some i:=fun h=>by
 obtain⟨a,_,ha⟩:=ht i hi
 obtain⟨b,hb,hb2⟩:=ht j hj
 have h2:upP par (n+1+a) j=some top:=by rw[zgz,h];exact ha
 have:=zpi h0 h2 hb2
 omega
theorem zjP (hG:okG n K par){top:Nat}(h0:par top=none)(ht:∀j,j<n→∃k,k<n+1∧upP par k j=some top){i:Nat}(hi:i<n):zaW K (n+1) i=i::(K i).flatMap (zaW K (n+1)):=by
 rw[←zi1 hG (n+1) i hi fun j hj=>zeV h0 ht hi hj,zaW]
end
end Go.Abs
namespace Go.Abs
open Go
def zb0 (s:zao)(i:Nat):List Str:=match s.pieces[i]? with|some p=>zas p.form|none=>[]
def zcF (s:zao):List (Str×Nat):=(List.range s.pieces.length).flatMap fun i=>(zb0 s i).map fun h=>(h,i)
def inP (s:zao)(l:List Nat)(h:Str):Nat:=l.getD ((zbt s.pieces).idxOf h) 0
def zbc (s:zao)(l:List Nat)(i:Nat):List Nat:=(zb0 s i).map (inP s l)
def zFo (s:zao):List Nat:=(zcF s).map (·.2)
def zm1 (s:zao)(l:List Nat)(j:Nat):Option Nat:=if j∈l then some ((zFo s).getD (l.idxOf j) 0)else none
def zeG (n:Nat)(l:List Nat):Nat:=((List.range n).find? fun i=> !decide (i∈l)).getD 0
theorem zfd {β:Type}(g:zbD→List β):∀(ps:List zbD),ps.flatMap g=(List.range ps.length).flatMap fun i=>match ps[i]? with|some p=>g p|none=>[]
 |[]=>rfl
 |p::ps=>by
  rw[List.flatMap_cons,zfd g ps,List.length_cons,List.range_succ_eq_map,List.flatMap_cons,List.flatMap_map]
  congr 1
theorem zez (s:zao):(zcF s).map (·.1)=zbt s.pieces:=by
 unfold zcF zbt
 rw[zfd,List.map_flatMap]
 congr 1
 funext i
 rw[List.map_map]
 unfold zb0
 cases s.pieces[i]? with
 |none=>rfl
 |some p=>simp[Function.comp_def]
theorem zfS {s:zao}{h:Str}{i:Nat}:(h,i)∈zcF s↔h∈zb0 s i:=by
 unfold zcF
 rw[List.mem_flatMap]
 constructor
 ·rintro⟨k,_,hk⟩
  obtain⟨g,hg,e⟩:=List.mem_map.1 hk
  simp only[Prod.mk.injEq]at e
  obtain⟨rfl,rfl⟩:=e
  exact hg
 ·intro hh
  refine⟨i,List.mem_range.2 ?_,List.mem_map.2 ⟨h,hh,rfl⟩⟩
  refine Classical.byContradiction fun hc=>?_
  unfold zb0 at hh
  rw[List.getElem?_eq_none (by omega)]at hh
  simp at hh
theorem zh0 {α:Type}[BEq α][LawfulBEq α]{l:List α}(hn:l.Nodup){t:Nat}(h:t<l.length):l.idxOf l[t]=t:=by
 have h1:=List.idxOf_lt_length_of_mem (List.getElem_mem h)
 have h2:=List.getElem_idxOf h1
 have hp:=List.pairwise_iff_getElem.1 hn
 rcases Nat.lt_trichotomy (l.idxOf l[t]) t with h3|h3|h3
 ·exact absurd h2 (hp _ _ h1 h h3)
 ·exact h3
 ·exact absurd h2.symm (hp _ _ h h1 h3)
theorem zci {α:Type}[DecidableEq α]:∀{a b:List α},a.Nodup→(∀x∈a,x∈b)→a.length≤b.length
 |[],_,_,_=>Nat.zero_le _
 |x::a,b,hn,h=>by
  have hn':=List.nodup_cons.1 hn
  have h1:x∈b:=h x (by simp)
  have h2:=zci (a:=a) (b:=b.erase x) hn'.2 fun y hy=>(List.mem_erase_of_ne (fun e=>hn'.1 (by rw[←e];exact hy))).2 (h y (by simp[hy]))
  have h3:=List.length_erase_of_mem h1
  have h4:=List.length_pos_of_mem h1
  rw[List.length_cons];omega
structure okL (s:zao)(l:List Nat):Prop where
 d:(zbt s.pieces).Nodup
 n:l.Nodup
 e:l.length=(zbt s.pieces).length
 u:l.length+1=s.pieces.length
 b:∀x∈l,x<s.pieces.length
section
variable {s:zao} {l:List Nat}
theorem okL.g (h:okL s l):okG s.pieces.length (zbc s l) (zm1 s l):=by
 have hlen:(zcF s).length=l.length:=by rw[h.e,←zez,List.length_map]
 have hall:∀t (ht:t<(zcF s).length),(zbt s.pieces)[t]'(by rw[←zez,List.length_map];exact ht)=((zcF s)[t]).1:=fun t ht=>by
  simp only[←zez,List.getElem_map]
 have hup:∀t (ht:t<(zcF s).length),(zFo s).getD t 0=((zcF s)[t]).2:=fun t ht=>by
  unfold zFo
  rw[List.getD_eq_getElem?_getD,List.getElem?_map,List.getElem?_eq_getElem ht];rfl
 refine⟨fun i j hi=>?_,fun j i hj hp=>?_⟩
 ·unfold zbc
  rw[List.mem_map]
  constructor
  ·rintro⟨g,hg,e⟩
   obtain⟨t,ht,e2⟩:=List.getElem_of_mem (zfS.2 hg)
   have ht2:t<(zbt s.pieces).length:=by rw[←zez,List.length_map];exact ht
   have e3:(zbt s.pieces)[t]=g:=by rw[hall t ht,e2]
   have e4:(zbt s.pieces).idxOf g=t:=by rw[←e3];exact zh0 h.d ht2
   have htl:t<l.length:=by omega
   have e5:l[t]=j:=by
    rw[←e]
    unfold inP
    rw[e4,List.getD_eq_getElem?_getD,List.getElem?_eq_getElem htl];rfl
   have hjl:j∈l:=by rw[←e5];exact List.getElem_mem htl
   refine⟨h.b j hjl,?_⟩
   unfold zm1
   rw[if_pos hjl]
   have e6:l.idxOf j=t:=by rw[←e5];exact zh0 h.n htl
   rw[e6,hup t ht,e2]
  ·rintro⟨_,hp⟩
   unfold zm1 at hp
   by_cases hjl:j∈l
   ·rw[if_pos hjl]at hp
    have htl:=List.idxOf_lt_length_of_mem hjl
    have ht:l.idxOf j<(zcF s).length:=by omega
    have hp2:=Option.some.inj hp
    rw[hup _ ht]at hp2
    have hmem:(((zcF s)[l.idxOf j]).1,i)∈zcF s:=by rw[←hp2];exact List.getElem_mem ht
    refine⟨((zcF s)[l.idxOf j]).1,zfS.1 hmem,?_⟩
    have ht2:l.idxOf j<(zbt s.pieces).length:=by rw[←h.e];exact htl
    unfold inP
    rw[←hall _ ht,zh0 h.d ht2,List.getD_eq_getElem?_getD,List.getElem?_eq_getElem htl,Option.getD_some,List.getElem_idxOf htl]
   ·rw[if_neg hjl]at hp;cases hp
 ·unfold zm1 at hp
  by_cases hjl:j∈l
  ·rw[if_pos hjl]at hp
   have htl:=List.idxOf_lt_length_of_mem hjl
   have ht:l.idxOf j<(zcF s).length:=by omega
   have hp2:=Option.some.inj hp
   rw[hup _ ht]at hp2
   have hmem:(((zcF s)[l.idxOf j]).1,i)∈zcF s:=by rw[←hp2];exact List.getElem_mem ht
   have hh:=zfS.1 hmem
   refine Classical.byContradiction fun hc=>?_
   unfold zb0 at hh
   rw[List.getElem?_eq_none (by omega)]at hh
   simp at hh
  ·rw[if_neg hjl]at hp;cases hp
theorem okL.t (h:okL s l):zeG s.pieces.length l<s.pieces.length∧zeG s.pieces.length l∉l∧∀i,i<s.pieces.length→i∉l→i=zeG s.pieces.length l:=by
 have hex:∃i,i<s.pieces.length∧i∉l:=by
  refine Classical.byContradiction fun hc=>?_
  have hsub:∀i∈List.range s.pieces.length,i∈l:=fun i hi=>Classical.byContradiction fun hn=>hc ⟨i,List.mem_range.1 hi,hn⟩
  have:=zci List.nodup_range hsub
  rw[List.length_range]at this
  have:=h.u
  omega
 obtain⟨t,ht,hf⟩:∃t,(List.range s.pieces.length).find? (fun i=> !decide (i∈l))=some t∧True:=by
  obtain⟨i,hi,hn⟩:=hex
  cases hfi:(List.range s.pieces.length).find? (fun i=> !decide (i∈l))with
  |none=>
   rw[List.find?_eq_none]at hfi
   have:=hfi i (List.mem_range.2 hi)
   simp[hn]at this
  |some t=>exact⟨t,rfl,trivial⟩
 have htp:zeG s.pieces.length l=t:=by unfold zeG;rw[ht];rfl
 have h1:t<s.pieces.length:=List.mem_range.1 (List.mem_of_find?_eq_some ht)
 have h2:t∉l:=by simpa using List.find?_some ht
 rw[htp]
 refine⟨h1,h2,fun i hi hn=>Classical.byContradiction fun hne=>?_⟩
 have hnd:(t::i::l).Nodup:=by
  refine List.nodup_cons.2 ⟨?_,List.nodup_cons.2 ⟨hn,h.n⟩⟩
  simp only[List.mem_cons,not_or]
  exact⟨fun e=>hne e.symm,h2⟩
 have hsub2:∀y∈(t::i::l),y∈List.range s.pieces.length:=fun y hy=>by
  simp only[List.mem_cons]at hy
  rcases hy with rfl|rfl|hy
  ·exact List.mem_range.2 h1
  ·exact List.mem_range.2 hi
  ·exact List.mem_range.2 (h.b y hy)
 have:=zci hnd hsub2
 rw[List.length_range]at this
 simp only[List.length_cons]at this
 have:=h.u
 omega
theorem okL.p (h:okL s l):zm1 s l (zeG s.pieces.length l)=none:=by
 unfold zm1
 rw[if_neg h.t.2.1]
end
end Go.Abs
namespace Go.Abs
open Go
mutual
def zbI (g:Str→zab):zab→zab
 | .mk k nm ws s=>if k=10 then g nm else .mk k nm ws (za0 g s)
def za0 (g:Str→zab):List zab→List zab
 |[]=>[]
 |f::fs=>zbI g f::za0 g fs
end
theorem zd1 (g:Str→zab):∀l:List zab,za0 g l=l.map (zbI g)
 |[]=>by rw[za0];rfl
 |f::l=>by rw[za0,zd1 g l];rfl
mutual
theorem zeF {g g':Str→zab}:∀(f:zab),(∀h∈zas f,g h=g' h)→zbI g f=zbI g' f
 | .mk k nm ws s,h=>by
  rw[zas]at h
  rw[zbI,zbI]
  split
  ·rename_i hk;rw[if_pos hk]at h;exact h nm (by simp)
  ·rename_i hk;rw[if_neg hk]at h;rw[zf0 s h]
theorem zf0 {g g':Str→zab}:∀(fs:List zab),(∀h∈zaG fs,g h=g' h)→za0 g fs=za0 g' fs
 |[],_=>by rw[za0,za0]
 |f::fs,h=>by
  rw[zaG]at h
  rw[za0,za0,zeF f fun x hx=>h x (List.mem_append_left _ hx),zf0 fs fun x hx=>h x (List.mem_append_right _ hx)]
end
def zdv (l:List Nat):Nat:=l.foldr (· +·) 0
theorem zhp:∀a b:List Nat,zdv (a++b)=zdv a+zdv b
 |[],b=>by simp[zdv]
 |x::a,b=>by
  have:=zhp a b
  simp only[zdv,List.cons_append,List.foldr_cons]at this ⊢
  omega
mutual
theorem zir (g:Str→zab):∀f:zab,(zbI g f).size≤f.size+zdv ((zas f).map fun h=>(g h).size)
 | .mk k nm ws s=>by
  rw[zbI,zas]
  split
  ·simp[zdv]
  ·rw[zab.size,zab.size]
   have:=zgU g s
   omega
theorem zgU (g:Str→zab):∀fs:List zab,zab.sizes (za0 g fs)≤zab.sizes fs+zdv ((zaG fs).map fun h=>(g h).size)
 |[]=>by rw[za0,zaG,zab.sizes];simp
 |f::fs=>by
  rw[za0,zaG,zab.sizes,zab.sizes,List.map_append,zhp]
  have:=zir g f
  have:=zgU g fs
  omega
end
mutual
theorem zjr (g:Str→zab):∀f:zab,f.fit=true→(∀h∈zas f,(g h).fit=true)→(zbI g f).fit=true
 | .mk k nm ws s,hf,h=>by
  rw[zas]at h
  rw[zbI]
  split
  ·rename_i hk;rw[if_pos hk]at h;exact h nm (by simp)
  ·rename_i hk
   rw[if_neg hk]at h
   rw[zab.fit]at hf ⊢
   simp only[Bool.and_eq_true,decide_eq_true_eq]at hf ⊢
   refine⟨⟨hf.1.1,?_⟩,zis g s hf.2 h⟩
   rw[zd1,List.length_map];exact hf.1.2
theorem zis (g:Str→zab):∀fs:List zab,zab.fits fs=true→(∀h∈zaG fs,(g h).fit=true)→zab.fits (za0 g fs)=true
 |[],_,_=>by rw[za0];rfl
 |f::fs,hf,h=>by
  rw[zaG]at h
  rw[zab.fits,Bool.and_eq_true]at hf
  rw[za0,zab.fits,Bool.and_eq_true]
  exact⟨zjr g f hf.1 fun x hx=>h x (List.mem_append_left _ hx),zis g fs hf.2 fun x hx=>h x (List.mem_append_right _ hx)⟩
end
def zbH (s:zao)(i:Nat):zab:=match s.pieces[i]? with|some p=>p.form|none=> .mk 0 ⟨[]⟩ [] []
theorem zbQ (s:zao)(i:Nat):zb0 s i=zas (zbH s i):=by
 unfold zb0 zbH
 cases s.pieces[i]? with
 |none=>rfl
 |some p=>rfl
def zb2 (s:zao)(l:List Nat):Nat→Nat→zab
 |0,_=> .mk 0 ⟨[]⟩ [] []
 |f+1,i=>zbI (fun h=>zb2 s l f (inP s l h)) (zbH s i)
section
variable {n:Nat} {K:Nat→List Nat} {par:Nat→Option Nat}
theorem ztu {top:Nat}(h0:par top=none)(ht:∀j,j<n→∃k,k<n+1∧upP par k j=some top){i k:Nat}(hi:i<n):upP par (k+1) i≠some i:=fun h=>by
 obtain⟨a,_,ha⟩:=ht i hi
 have h2:upP par (k+1+a) i=some top:=by rw[zgz,h];exact ha
 have:=zpi h0 h2 ha
 omega
theorem ze9 (hG:okG n K par)(hK:∀i,i<n→(K i).Nodup){top:Nat}(h0:par top=none)(ht:∀j,j<n→∃k,k<n+1∧upP par k j=some top):∀(f i:Nat),i<n→(zaW K f i).Nodup
 |0,i,_=>by rw[zaW];exact List.nodup_nil
 |f+1,i,hi=>by
  rw[zaW]
  have hlt:∀c∈K i,c<n∧par c=some i:=fun c hc=>(hG.k i c hi).1 hc
  have hbl:∀(c:Nat),c<n→∀x∈zaW K f c,x<n:=fun c hc x hx=>by
   have key:∀(f c:Nat),c<n→∀x∈zaW K f c,x<n:=by
    intro f
    induction f with
    |zero=>intro c _ x hx;simp[zaW]at hx
    |succ f ih=>
     intro c hc x hx
     rw[zaW,List.mem_cons,List.mem_flatMap]at hx
     rcases hx with rfl|⟨d,hd,hx⟩
     ·exact hc
     ·exact ih d ((hG.k c d hc).1 hd).1 x hx
   exact key f c hc x hx
  refine List.nodup_cons.2 ⟨fun h=>?_,?_⟩
  ·obtain⟨c,hc,hx⟩:=List.mem_flatMap.1 h
   obtain⟨k,_,hu⟩:=(zdE hG hi f c (hlt c hc).1).1 hx
   exact ztu h0 ht hi (by rw[zcl,hu];exact(hlt c hc).2)
  ·have key:∀cs:List Nat,cs.Nodup→(∀c∈cs,c∈K i)→(cs.flatMap (zaW K f)).Nodup:=by
    intro cs
    induction cs with
    |nil=>intro _ _;exact List.nodup_nil
    |cons c cs ih=>
     intro hn hm
     have hn':=List.nodup_cons.1 hn
     have hc:=hlt c (hm c (by simp))
     rw[List.flatMap_cons]
     refine List.nodup_append.2 ⟨ze9 hG hK h0 ht f c hc.1,ih hn'.2 fun x hx=>hm x (by simp[hx]),fun x hx y hy e=>?_⟩
     subst e
     obtain⟨d,hd,hy⟩:=List.mem_flatMap.1 hy
     have hd2:=hlt d (hm d (by simp[hd]))
     have hxn:=hbl c hc.1 x hx
     obtain⟨a,_,ha⟩:=(zdE hG hxn f c hc.1).1 hx
     obtain⟨b,_,hb⟩:=(zdE hG hxn f d hd2.1).1 hy
     have ha2:upP par (a+1) x=some i:=by rw[zcl,ha];exact hc.2
     have hb2:upP par (b+1) x=some i:=by rw[zcl,hb];exact hd2.2
     obtain⟨t,_,hu⟩:=ht i hi
     have e1:upP par (a+1+t) x=some top:=by rw[zgz,ha2];exact hu
     have e2:upP par (b+1+t) x=some top:=by rw[zgz,hb2];exact hu
     have e3:=zpi h0 e1 e2
     have e4:a=b:=by omega
     subst e4
     rw[ha]at hb
     have e5:c=d:=Option.some.inj hb
     subst e5
     exact hn'.1 hd
   exact key (K i) (hK i hi) fun c hc=>hc
end
end Go.Abs
namespace Go.Abs
open Go
def nP (s:zao):Nat:=s.pieces.length
def zww (s:zao)(x:Str):Nat:=(zaS s.pieces).idxOf x
def zcX (s:zao)(l:List Nat):Bool:=(List.range (nP s)).all fun j=>zki (zm1 s l) (zeG (nP s) l) (nP s+1) j
def zkr (s:zao)(l:List Nat)(o:zjC):Bool:=zki (zm1 s l) (inP s l o.hole) (nP s+1) (zww s o.label)
def zcS (s:zao)(l:List Nat):zab:=zb2 s l (nP s+1) (zeG (nP s) l)
def zyB (s:zao)(l:List Nat)(v:Str):Bool:= !decide (v∈cst (zcS s l) [])
def okS (s:zao)(l:List Nat):Bool:=zcX s l&&s.overs.all (zkr s l)&&s.vars.all (zyB s l)
def zd4 (s:zao):Nat→List Bool→List Nat→List (List Nat)
 |0,_,l=>if okS s l=true then[l]else[]
 |r+1,used,l=>(List.range (nP s)).flatMap fun i=>if used.getD i false=true then[]else zd4 s r (used.set i true) (l++[i])
def zda (s:zao):List (List Nat):=if(zbt s.pieces).length+1≠nP s then[]else zd4 s (zbt s.pieces).length (List.replicate (nP s) false) []
theorem znd {l:List Bool}{i j:Nat}(h:i≠j):(l.set i true).getD j false=l.getD j false:=by
 rw[List.getD_eq_getElem?_getD,List.getElem?_set_ne h,←List.getD_eq_getElem?_getD]
theorem zh7 {s:zao}{x:List Nat}:∀(r:Nat) (used:List Bool) (l:List Nat),used.length=nP s→(x∈zd4 s r used l↔∃t,x=l++t∧t.length=r∧t.Nodup∧(∀i∈t,i<nP s∧used.getD i false=false)∧okS s x=true)
 |0,used,l,_=>by
  rw[zd4]
  constructor
  ·intro h
   split at h
   ·rename_i hk
    rw[List.mem_singleton.1 h]
    exact⟨[],by simp,rfl,List.nodup_nil,by simp,hk⟩
   ·simp at h
  ·rintro⟨t,rfl,ht,_,_,hk⟩
   obtain rfl:=List.eq_nil_of_length_eq_zero ht
   rw[List.append_nil]at hk ⊢
   rw[if_pos hk];simp
 |r+1,used,l,hu=>by
  rw[zd4,List.mem_flatMap]
  constructor
  ·rintro⟨i,hi,hx⟩
   have hin:=List.mem_range.1 hi
   split at hx
   ·simp at hx
   ·rename_i hf
    obtain⟨t,rfl,ht,hn,hb,hk⟩:=(zh7 r (used.set i true) (l++[i]) (by rw[List.length_set];exact hu)).1 hx
    refine⟨i::t,by simp,by simp[ht],List.nodup_cons.2 ⟨fun h=>?_,hn⟩,fun j hj=>?_,hk⟩
    ·have:=(hb i h).2
     rw[zc9 (by omega)]at this
     cases this
    ·rcases List.mem_cons.1 hj with rfl|hj
     ·exact⟨hin,by simpa using hf⟩
     ·have h2:=hb j hj
      have hne:i≠j:=fun e=>by
       subst e
       rw[zc9 (by omega)]at h2
       cases h2.2
      exact⟨h2.1,by rw[←znd hne];exact h2.2⟩
  ·rintro⟨t,rfl,ht,hn,hb,hk⟩
   cases t with
   |nil=>simp at ht
   |cons i t=>
    have hn':=List.nodup_cons.1 hn
    have hi:=hb i (by simp)
    refine⟨i,List.mem_range.2 hi.1,?_⟩
    rw[if_neg (by simp only[hi.2,Bool.false_eq_true,not_false_eq_true])]
    refine(zh7 r (used.set i true) (l++[i]) (by rw[List.length_set];exact hu)).2 ⟨t,by simp,by simpa using ht,hn'.2,fun j hj=>?_,hk⟩
    have hne:i≠j:=fun e=>hn'.1 (e▸hj)
    exact⟨(hb j (by simp[hj])).1,by rw[znd hne];exact(hb j (by simp[hj])).2⟩
theorem zl9 {s:zao}{x:List Nat}:x∈zda s↔(zbt s.pieces).length+1=nP s∧x.length=(zbt s.pieces).length∧x.Nodup∧(∀i∈x,i<nP s)∧okS s x=true:=by
 unfold zda
 split
 ·rename_i h
  simp only[List.not_mem_nil,false_iff]
  exact fun h2=>h h2.1
 ·rename_i h
  have h':=Decidable.not_not.1 h
  rw[zh7 _ _ _ (List.length_replicate ..)]
  constructor
  ·rintro⟨t,e,h1,h2,h3,h4⟩
   rw[List.nil_append]at e
   subst e
   exact⟨h',h1,h2,fun i hi=>(h3 i hi).1,h4⟩
  ·rintro⟨_,h1,h2,h3,h4⟩
   exact⟨x,by simp,h1,h2,fun i hi=>⟨h3 i hi,zka⟩,h4⟩
theorem zi6:∀{hs all:List Str},zr1 all hs=false→all.Nodup→(all++hs).Nodup
 |[],all,_,h=>by rw[List.append_nil];exact h
 |x::hs,all,h,hn=>by
  rw[zr1,Bool.or_eq_false_iff]at h
  have h1:x∉all:=by simpa using h.1
  have h2:=zi6 (hs:=hs) (all:=all++[x]) h.2 (List.nodup_append.2 ⟨hn,by simp,fun a ha b hb e=>by
   rw[List.mem_singleton.1 hb]at e;exact h1 (e▸ha)⟩)
  rwa [List.append_assoc,List.singleton_append]at h2
theorem zo1:∀{ps:List zbD} {l a:List Str} {i:Nat},(zgr l a ps i).code=0→l.Nodup→a.Nodup→(l++zaS ps).Nodup∧(a++zbt ps).Nodup∧∀p∈ps,(zaX true p.form).code=0
 |[],l,a,i,_,h1,h2=>⟨by simpa[zaS]using h1,by simpa[zbt]using h2,by simp⟩
 |p::ps,l,a,i,h,h1,h2=>by
  rw[zgr]at h
  by_cases hp:zd7 l a p=0
  ·rw[if_neg (by simp[hp])]at h
   unfold zd7 at hp
   split at hp
   ·exact absurd hp (by decide)
   ·split at hp
    ·exact absurd hp (by decide)
    ·rename_i hlab
     split at hp
     ·rename_i hc;exact absurd hp hc
     ·rename_i hc
      split at hp
      ·exact absurd hp (by decide)
      ·rename_i hd
       obtain⟨k1,k2,k3⟩:=zo1 h (List.nodup_append.2 ⟨h1,by simp,fun x hx y hy e=>by rw[List.mem_singleton.1 hy]at e;exact hlab (e▸hx)⟩) (zi6 (by simpa using hd) h2)
       refine⟨?_,?_,fun q hq=>?_⟩
       ·rw[List.append_assoc]at k1;exact k1
       ·rw[List.append_assoc]at k2;exact k2
       ·rcases List.mem_cons.1 hq with rfl|hq
        ·exact Decidable.not_not.1 hc
        ·exact k3 q hq
  ·rw[if_pos hp]at h
   exact absurd h hp
structure zg9 (s:zao):Prop where
 n1:1≤nP s
 n6:nP s≤6
 lab:(zaS s.pieces).Nodup
 hol:(zbt s.pieces).Nodup
 chk:∀p∈s.pieces,(zaX true p.form).code=0
 nod:zdq s.pieces≤200
 ov:s.overs.length≤300
 ovs:∀o∈s.overs,o.hole∈zbt s.pieces∧o.label∈zaS s.pieces
 vs:s.vars.length≤6
theorem zkH {s:zao}(h:(zaZ s).code=0):zg9 s:=by
 unfold zaZ at h
 split at h
 ·exact absurd h (by decide)
 rename_i h1
 split at h
 ·rename_i h2;exact absurd h h2
 rename_i h2
 split at h
 ·exact absurd h (by decide)
 rename_i h3
 split at h
 ·exact absurd h (by decide)
 rename_i h4
 split at h
 ·exact absurd h (by decide)
 rename_i h5
 split at h
 ·exact absurd h (by decide)
 rename_i h6
 obtain⟨k1,k2,k3⟩:=zo1 (Decidable.not_not.1 h2) List.nodup_nil List.nodup_nil
 refine⟨by unfold nP;omega,by unfold nP;omega,by simpa using k1,by simpa using k2,k3,by omega,by omega,fun o ho=>?_,by omega⟩
 have h7:s.overs.all (zck (zaS s.pieces) (zbt s.pieces))=true:=by simpa using h5
 have h8:=List.all_eq_true.1 h7 o ho
 unfold zck at h8
 simpa using h8
theorem zwB {s:zao}(h:zg9 s){l:List Nat}(h1:(zbt s.pieces).length+1=nP s)(h2:l.length=(zbt s.pieces).length)(h3:l.Nodup)(h4:∀i∈l,i<nP s):okL s l:=
 ⟨h.hol,h3,h2,by unfold nP at h1;omega,h4⟩
theorem zeH {s:zao}{l:List Nat}(h:zcX s l=true):∀j,j<nP s→∃k,k<nP s+1∧upP (zm1 s l) k j=some (zeG (nP s) l):=fun j hj=>by
 have h1:=List.all_eq_true.1 h j (List.mem_range.2 hj)
 exact(zdo _ _).1 h1
theorem zqm {s:zao}{l:List Nat}(h:okL s l){x:Str}(hx:x∈zbt s.pieces):inP s l x<nP s:=by
 have h1:=List.idxOf_lt_length_of_mem hx
 unfold inP
 rw[List.getD_eq_getElem?_getD,List.getElem?_eq_getElem (by rw[h.e];exact h1)]
 exact h.b _ (List.getElem_mem _)
theorem zpA {s:zao}{l:List Nat}(h:okL s l){a b:Nat}(ha:a<nP s)(hb:b<nP s):(b∈zaW (zbc s l) (nP s+1) a)↔zki (zm1 s l) a (nP s+1) b=true:=by
 rw[zdE h.g hb _ a ha,zdo]
end Go.Abs
namespace Go.Abs
open Go
theorem zjt {α:Type}[DecidableEq α](g:α→Nat){x:α}:∀{b:List α},x∈b→zdv (b.map g)=g x+zdv ((b.erase x).map g)
 |[],h=>by simp at h
 |y::b,h=>by
  rw[List.erase_cons]
  by_cases e:y=x
  ·subst e
   simp[zdv]
  ·rw[if_neg (by simpa using e)]
   rcases List.mem_cons.1 h with h2|h2
   ·exact absurd h2.symm e
   ·have:=zjt g h2
    simp only[List.map_cons,zdv,List.foldr_cons]at this ⊢
    omega
theorem zkQ {α:Type}[DecidableEq α](g:α→Nat):∀{a b:List α},a.Nodup→(∀x∈a,x∈b)→zdv (a.map g)≤zdv (b.map g)
 |[],_,_,_=>by simp[zdv]
 |x::a,b,hn,h=>by
  have hn':=List.nodup_cons.1 hn
  have h1:=zjt g (h x (by simp))
  have h2:=zkQ g (a:=a) (b:=b.erase x) hn'.2 fun y hy=>(List.mem_erase_of_ne (fun e=>hn'.1 (by rw[←e];exact hy))).2 (h y (by simp[hy]))
  simp only[List.map_cons,zdv,List.foldr_cons]at h1 h2 ⊢
  omega
theorem zmC:∀ps:List zbD,zab.sizes (ps.map (·.form))=zdv ((List.range ps.length).map fun i=>(match ps[i]? with|some p=>p.form|none=>zab.mk 0 ⟨[]⟩ [] []).size)
 |[]=>by simp[zab.sizes,zdv]
 |p::ps=>by
  have h:=zmC ps
  rw[List.map_cons,zab.sizes,h,List.length_cons,List.range_succ_eq_map,List.map_cons,List.map_map]
  simp[zdv,Function.comp_def]
theorem zi9 {α β:Type}{g:α→List β}:∀{l:List α},(l.flatMap g).Nodup→∀{x:α},x∈l→(g x).Nodup
 |[],_,x,hx=>by simp at hx
 |y::l,h,x,hx=>by
  rw[List.flatMap_cons]at h
  have h2:=List.nodup_append.1 h
  rcases List.mem_cons.1 hx with rfl|hx
  ·exact h2.1
  ·exact zi9 h2.2.1 hx
theorem ziu {α:Type}(g:Nat→List α)(w:α→Nat):∀l:List Nat,zdv ((l.flatMap g).map w)=zdv (l.map fun x=>zdv ((g x).map w))
 |[]=>rfl
 |x::l=>by
  rw[List.flatMap_cons,List.map_append,zhp,ziu g w l]
  simp[zdv]
theorem ztq {α:Type}{g w:α→Nat}:∀{l:List α},(∀x∈l,g x≤w x)→zdv (l.map g)≤zdv (l.map w)
 |[],_=>by simp[zdv]
 |x::l,h=>by
  have h1:=h x (by simp)
  have h2:=ztq (l:=l) fun y hy=>h y (by simp[hy])
  simp only[List.map_cons,zdv,List.foldr_cons]at h2 ⊢
  omega
section
variable {s:zao} {l:List Nat}
theorem zdX {i:Nat}{x:Str}(h:x∈zb0 s i):x∈zbt s.pieces:=by
 rw[←zez]
 exact List.mem_map.2 ⟨(x,i),zfS.2 h,rfl⟩
theorem zjl (h:okL s l):∀(f i:Nat),i<nP s→(∀j,j<nP s→upP (zm1 s l) f j≠some i)→zb2 s l (f+1) i=zb2 s l f i
 |0,i,hi,hn=>absurd rfl (hn i hi)
 |f+1,i,hi,hn=>by
  rw[zb2,zb2]
  refine zeF _ fun x hx=>?_
  rw[←zbQ]at hx
  have hc:inP s l x∈zbc s l i:=List.mem_map_of_mem hx
  obtain⟨hcn,hp⟩:=(h.g.k i _ hi).1 hc
  exact zjl h f _ hcn fun j hj hu=>hn j hj (by rw[zcl,hu];exact hp)
theorem zoT (h:okL s l)(ht:zcX s l=true){i:Nat}(hi:i<nP s):zb2 s l (nP s+1) i=zbI (fun x=>zb2 s l (nP s+1) (inP s l x)) (zbH s i):=by
 rw[←zjl h (nP s+1) i hi fun j hj=>zeV h.p (zeH ht) hi hj,zb2]
theorem zjk (h:okL s l):∀(f i:Nat),i<nP s→(∀j,j<nP s→upP (zm1 s l) f j≠some i)→(zb2 s l f i).size≤zdv ((zaW (zbc s l) f i).map fun j=>(zbH s j).size)
 |0,i,hi,hn=>absurd rfl (hn i hi)
 |f+1,i,hi,hn=>by
  rw[zb2,zaW]
  refine Nat.le_trans (zir _ _) ?_
  rw[List.map_cons]
  have hfl:=ziu (zaW (zbc s l) f) (fun j=>(zbH s j).size) (zbc s l i)
  have key:zdv ((zas (zbH s i)).map fun x=>(zb2 s l f (inP s l x)).size)≤zdv ((zbc s l i).map fun c=>zdv ((zaW (zbc s l) f c).map fun j=>(zbH s j).size)):=by
   unfold zbc
   rw[List.map_map,←zbQ]
   refine ztq fun x hx=>?_
   have hc:inP s l x∈zbc s l i:=List.mem_map_of_mem hx
   obtain⟨hcn,hp⟩:=(h.g.k i _ hi).1 hc
   exact zjk h f _ hcn fun j hj hu=>hn j hj (by rw[zcl,hu];exact hp)
  rw[←hfl]at key
  simp only[zdv,List.foldr_cons]at key ⊢
  omega
theorem zje (h:okL s l){i:Nat}(hi:i<nP s):(zbc s l i).Nodup:=by
 unfold zbc
 have hn:(zb0 s i).Nodup:=by
  have h1:(zbt s.pieces).Nodup:=h.d
  unfold zbt at h1
  rw[zfd]at h1
  exact zi9 h1 (List.mem_range.2 hi)
 have key:∀xs:List Str,xs.Nodup→(∀x∈xs,x∈zbt s.pieces)→(xs.map (inP s l)).Nodup:=by
  intro xs
  induction xs with
  |nil=>intro _ _;exact List.nodup_nil
  |cons x xs ih=>
   intro hn hm
   have hn':=List.nodup_cons.1 hn
   rw[List.map_cons]
   refine List.nodup_cons.2 ⟨fun hx=>?_,ih hn'.2 fun y hy=>hm y (by simp[hy])⟩
   obtain⟨y,hy,e⟩:=List.mem_map.1 hx
   have h1:=List.idxOf_lt_length_of_mem (hm x (by simp))
   have h2:=List.idxOf_lt_length_of_mem (hm y (by simp[hy]))
   unfold inP at e
   rw[List.getD_eq_getElem?_getD,List.getD_eq_getElem?_getD,List.getElem?_eq_getElem (by rw[h.e];exact h2),List.getElem?_eq_getElem (by rw[h.e];exact h1)]at e
   have e2:=zh0 h.n (show(zbt s.pieces).idxOf y<l.length by rw[h.e];exact h2)
   have e3:=zh0 h.n (show(zbt s.pieces).idxOf x<l.length by rw[h.e];exact h1)
   have e4:(zbt s.pieces).idxOf y=(zbt s.pieces).idxOf x:=by
    rw[←e2,←e3]
    exact congrArg l.idxOf e
   have e5:y=x:=by
    rw[←List.getElem_idxOf h2,←List.getElem_idxOf h1]
    simp only[e4]
   exact hn'.1 (e5▸hy)
 exact key _ hn fun x hx=>zdX hx
theorem zme (s:zao):zdq s.pieces=zdv ((List.range (nP s)).map fun i=>(zbH s i).size):=zmC s.pieces
theorem zjQ (h:okL s l):∀(f i:Nat),i<nP s→∀x∈zaW (zbc s l) f i,x<nP s
 |0,i,_,x,hx=>by simp[zaW]at hx
 |f+1,i,hi,x,hx=>by
  rw[zaW,List.mem_cons,List.mem_flatMap]at hx
  rcases hx with rfl|⟨c,hc,hx⟩
  ·exact hi
  ·exact zjQ h f c ((h.g.k i c hi).1 hc).1 x hx
theorem znR (h:okL s l)(ht:zcX s l=true){i:Nat}(hi:i<nP s):(zb2 s l (nP s+1) i).size≤zdq s.pieces:=by
 refine Nat.le_trans (zjk h _ i hi fun j hj=>zeV h.p (zeH ht) hi hj) ?_
 rw[zme]
 refine zkQ _ (ze9 h.g (fun i hi=>zje h hi) h.p (zeH ht) _ i hi) fun x hx=>?_
 exact List.mem_range.2 (zjQ h _ i hi x hx)
end
end Go.Abs
