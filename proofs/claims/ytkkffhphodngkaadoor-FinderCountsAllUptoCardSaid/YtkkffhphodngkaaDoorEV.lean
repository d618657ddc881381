import Derived.Test.YtkkffhphodngkaaDoorAL
set_option linter.unusedSimpArgs false
namespace Go.Abs
open Go
mutual
def wfE:zac→Prop
 | .mk k nm _ s=>(k=5→s.length=2)∧(k=9→s.length=1)∧(k=2→nm.l≠[])∧zpW s
def zpW:List zac→Prop
 |[]=>True
 |f::fs=>wfE f∧zpW fs
end
mutual
theorem zuZ {op:Bool}:∀(f:zac) (d:Int) (n:Nat),(chk op f d n).1.code=0→wfE f
 | .mk k nm w s,d,n,h=>by
  rw[chk]at h
  split at h
  ·rename_i h1;exact absurd h h1
  ·rename_i h1
   have h2:=zc8 (Decidable.not_not.1 h1)
   have h3:=h2.2.2.2.2
   simp only[zaN]at h3
   rw[wfE]
   refine⟨fun e=>?_,fun e=>?_,fun e=>?_,zng s _ _ h⟩
   ·subst e
    have:zba op (zac.mk 5 nm w s)=2:=by simp[zba,zdI,zax]
    omega
   ·subst e
    have:zba op (zac.mk 9 nm w s)=1:=by simp[zba,zdI,zax]
    omega
   ·have hn:=h2.2.1 (by unfold named;exact decide_eq_true (.inl e))
    simp only[zel]at hn
    unfold zaq at hn
    have:=(of_decide_eq_true hn).1
    intro e2;rw[e2]at this;simp at this
theorem zng {op:Bool}:∀(fs:List zac) (d:Int) (n:Nat),(zdZ op fs d n).1.code=0→zpW fs
 |[],d,n,_=>by rw[zpW];trivial
 |f::fs,d,n,h=>by
  rw[zdZ]at h
  split at h
  ·rename_i h1;exact absurd h h1
  ·rename_i h1
   rw[zpW]
   exact⟨zuZ f d n (Decidable.not_not.1 h1),zng fs d _ h⟩
end
mutual
def zft:zac→List zac
 | .mk k nm ws s=>if k=5∧s.length=2 then zhw s else[.mk k nm ws s]
def zhw:List zac→List zac
 |[]=>[]
 |f::fs=>zft f++fs
end
theorem zrc {f a b:zac}(hk:f.kind=5)(hs:f.subs=[a,b]):zft f=zft a++[b]:=by
 cases f with
 |mk k nm ws s=>
  simp only[zax,zaN]at hk hs
  subst hk hs
  rw[zft,if_pos ⟨rfl,rfl⟩,zhw]
theorem zrd {f:zac}(h:¬(f.kind=5∧f.subs.length=2)):zft f=[f]:=by
 cases f with
 |mk k nm ws s=>
  simp only[zax,zaN]at h
  rw[zft,if_neg h]
theorem zlN {s:List zac}(h:s.length=2):∃a b,s=[a,b]:=by
 match s,h with
 |[a,b],_=>exact⟨a,b,rfl⟩
theorem znU {s:List zac}(h:s.length=1):∃a,s=[a]:=by
 match s,h with
 |[a],_=>exact⟨a,rfl⟩
def znr:zac:= .mk 0 ⟨[]⟩ [] []
def zb4 (f:zac):List zac:=zft (f.subs.getD 0 znr)
def zgB (f:zac):zac:=(zb4 f).getD 0 znr
def okE (f:zac):Bool:=decide (f.kind=9)&&decide ((zgB f).kind=2)&&decide ((zgB f).words.length=1)&&decide ((zgB f).words.getD 0 ⟨[]⟩=f.name)
def zqh (i:Nat):Str:=⟨97::114::103::zcf (i+1)⟩
def zmu (f:zac)(i:Nat)(x:zac):Bool:=decide (x.kind=2)&&decide (x.name=zqh i)&&decide (x.words.length=2)&&decide (x.words.getD 0 ⟨[]⟩=f.name)&& !decide (x.words.getD 1 ⟨[]⟩=f.name)
def zfr (f:zac):Nat→Bool
 |0=>true
 |i+1=>zfr f i&&zmu f i ((zb4 f).getD (i+1) znr)
def zi0 (f:zac)(i:Nat):List Str:=(List.range i).map fun j=>((zb4 f).getD (j+1) znr).words.getD 1 ⟨[]⟩
def zcE (f:zac):Bool:=okE f&&decide (2≤(zb4 f).length)&&decide ((zb4 f).length≤4)&&zfr f ((zb4 f).length-1)
def zbj (f:zac):zac:=if zcE f then .mk 2 (zgB f).name (zi0 f ((zb4 f).length-1)) []else f
mutual
def zat (by':zac→zac):zac→zac
 | .mk k nm ws s=>by' (.mk k nm ws (zan by' s))
def zan (by':zac→zac):List zac→List zac
 |[]=>[]
 |f::fs=>zat by' f::zan by' fs
end
theorem za7 (by':zac→zac):∀l:List zac,zan by' l=l.map (zat by')
 |[]=>by rw[zan];rfl
 |f::l=>by rw[zan,za7 by' l];rfl
theorem zoB (by':zac→zac)(f:zac):zat by' f=by' (.mk f.kind f.name f.words (f.subs.map (zat by'))):=by cases f;rw[zat,za7];rfl
theorem znD {f:zac}:∀{n i:Nat},zfr f n=true→i<n→zmu f i ((zb4 f).getD (i+1) znr)=true
 |n+1,i,h,hi=>by
  rw[zfr,Bool.and_eq_true]at h
  rcases Nat.lt_or_ge i n with h1|h1
  ·exact znD h.1 h1
  ·obtain rfl:i=n:=by omega
   exact h.2
theorem zjM {f:zac}(h:okE f=true):f.kind=9∧(zgB f).kind=2:=by
 unfold okE at h
 simp only[Bool.and_eq_true,decide_eq_true_eq]at h
 exact⟨h.1.1.1,h.1.1.2⟩
theorem zeE {f:zac}(h:zcE f=true):okE f=true:=by
 unfold zcE at h
 simp only[Bool.and_eq_true]at h
 exact h.1.1.1
mutual
theorem zmb {by':zac→zac}(hb:∀f,wfE f→wfE (by' f)):∀f:zac,wfE f→wfE (zat by' f)
 | .mk k nm ws s,h=>by
  rw[wfE]at h
  rw[zat]
  refine hb _ ?_
  rw[wfE,za7,List.length_map]
  refine⟨h.1,h.2.1,h.2.2.1,?_⟩
  rw[←za7]
  exact zd9 hb s h.2.2.2
theorem zd9 {by':zac→zac}(hb:∀f,wfE f→wfE (by' f)):∀fs:List zac,zpW fs→zpW (zan by' fs)
 |[],_=>by rw[zan,zpW];trivial
 |f::fs,h=>by rw[zpW]at h;rw[zan,zpW];exact⟨zmb hb f h.1,zd9 hb fs h.2⟩
end
theorem zle (f:zac):(zbj f).size≤f.size:=by
 unfold zbj
 split
 ·have:=f.size_pos;simp only[zac.size,zac.sizes];omega
 ·exact Nat.le_refl _
mutual
theorem zgh {by':zac→zac}{c:Nat}(hb:∀f,(by' f).size≤f.size+c):∀f:zac,(zat by' f).size≤f.size*(c+1)
 | .mk k nm ws s=>by
  rw[zat]
  have h1:=hb (.mk k nm ws (zan by' s))
  have h2:=zfg hb s
  rw[zac.size]at h1 ⊢
  rw[Nat.add_mul,Nat.one_mul]
  omega
theorem zfg {by':zac→zac}{c:Nat}(hb:∀f,(by' f).size≤f.size+c):∀fs:List zac,zac.sizes (zan by' fs)≤zac.sizes fs*(c+1)
 |[]=>by rw[zan,zac.sizes];omega
 |f::fs=>by
  rw[zan,zac.sizes,zac.sizes,Nat.add_mul]
  have h1:=zgh hb f
  have h2:=zfg hb fs
  omega
end
mutual
theorem zhb {by':zac→zac}(hb:∀f,f.fit=true→(by' f).fit=true):∀f:zac,f.fit=true→(zat by' f).fit=true
 | .mk k nm ws s,h=>by
  rw[zac.fit]at h
  simp only[Bool.and_eq_true]at h
  rw[zat]
  refine hb _ ?_
  rw[zac.fit,za7,List.length_map,←za7,zgj hb s h.2,h.1.1,h.1.2]
  rfl
theorem zgj {by':zac→zac}(hb:∀f,f.fit=true→(by' f).fit=true):∀fs:List zac,zac.fits fs=true→zac.fits (zan by' fs)=true
 |[],_=>by rw[zan,zac.fits]
 |f::fs,h=>by rw[zac.fits,Bool.and_eq_true]at h;rw[zan,zac.fits,zhb hb f h.1,zgj hb fs h.2];rfl
end
mutual
theorem zkj {by':zac→zac}{p:Str→Prop}(hb:∀f,wfE f→zbS p f→zbS p (by' f))(hw:∀f,wfE f→wfE (by' f)):∀f:zac,wfE f→zbS p f→zbS p (zat by' f)
 | .mk k nm ws s,h2,h=>by
  have h3:=h2
  rw[wfE]at h3
  rw[zbS]at h
  rw[zat]
  refine hb _ ?_ ?_
  ·rw[wfE,za7,List.length_map]
   refine⟨h3.1,h3.2.1,h3.2.2.1,?_⟩
   rw[←za7]
   exact zd9 hw s h3.2.2.2
  ·rw[zbS];exact⟨h.1,h.2.1,zff hb hw s h3.2.2.2 h.2.2⟩
theorem zff {by':zac→zac}{p:Str→Prop}(hb:∀f,wfE f→zbS p f→zbS p (by' f))(hw:∀f,wfE f→wfE (by' f)):∀fs:List zac,zpW fs→zaI p fs→zaI p (zan by' fs)
 |[],_,_=>by rw[zan,zaI];trivial
 |f::fs,h2,h=>by rw[zaI]at h;rw[zpW]at h2;rw[zan,zaI];exact⟨zkj hb hw f h2.1 h.1,zff hb hw fs h2.2 h.2⟩
end
def qM:Str:=⟨[63]⟩
def dM:Str:=⟨[36]⟩
def zcK (v:Str)(nm:Str)(ws:List Str):zac:= .mk 9 v [] [zdU 5 (.mk 2 nm [v] []::(List.range ws.length).map fun i=> .mk 2 (zqh i) [v,ws.getD i ⟨[]⟩] [])]
def zaS (v:Str)(ps:List Str)(f:zac):zac:=if f.kind=2∧0<f.words.length∧f.name∈ps then zcK v f.name f.words else f
theorem zcp (v:Str)(ps:List Str)(k:Int)(nm:Str)(ws:List Str)(s:List zac):zaS v ps (.mk k nm ws s)=if k=2∧0<ws.length∧nm∈ps then zcK v nm ws else .mk k nm ws s:=rfl
theorem zpF (nm:Str)(ws:List Str)(h:∀w∈ws,sg w=w):zfv sg (zcK qM nm ws)=zcK dM nm ws:=by
 have e:sg qM=dM:=rfl
 have hh:(zac.mk 2 nm [qM] []::(List.range ws.length).map fun i=>zac.mk 2 (zqh i) [qM,ws.getD i ⟨[]⟩] []).map (zfv sg)=zac.mk 2 nm [dM] []::(List.range ws.length).map fun i=>zac.mk 2 (zqh i) [dM,ws.getD i ⟨[]⟩] []:=by
  rw[List.map_cons,List.map_map]
  congr 1
  refine List.map_congr_left fun i hi=>?_
  have hi:=List.mem_range.1 hi
  have hm:ws.getD i ⟨[]⟩∈ws:=by
   rw[List.getD_eq_getElem?_getD,List.getElem?_eq_getElem hi]
   exact List.getElem_mem _
  show zfv sg (zac.mk 2 (zqh i) [qM,ws.getD i ⟨[]⟩] [])=_
  rw[zfv,if_neg (by decide),List.map_cons,List.map_cons,List.map_nil,e,h _ hm,zbP]
 unfold zcK
 rw[zfv,zbP,zbP,zq6 sg 5 (by decide),hh,if_pos (show isQ 9 from .inr rfl),e,List.map_nil]
mutual
theorem zrP (ps:List Str):∀f:zac,zbS (fun w=>sg w=w) f→zat (zaS dM ps) f=zfv sg (zat (zaS qM ps) f)
 | .mk k nm ws s,h=>by
  have h2:=h
  rw[zbS]at h
  rw[zat,zat,ziU ps s h.2.2]
  rw[zcp,zcp]
  split
  ·rw[zpF nm ws h.1]
  ·rw[zfv]
   congr 1
   ·by_cases hq:isQ k
    ·rw[if_pos hq];exact(h.2.1 hq).symm
    ·rw[if_neg hq]
   ·conv=>lhs;rw[←List.map_id ws]
    exact List.map_congr_left fun w hw=>(h.1 w hw).symm
theorem ziU (ps:List Str):∀fs:List zac,zaI (fun w=>sg w=w) fs→zan (zaS dM ps) fs=zbP sg (zan (zaS qM ps) fs)
 |[],_=>by rw[zan,zan,zbP]
 |f::fs,h=>by rw[zaI]at h;rw[zan,zan,zbP,zrP ps f h.1,ziU ps fs h.2]
end
def swP (x:Str):Prop:=(x.l.head? =some 63→x=qM)∧x.l.head? ≠some 36∧¬zlU x
theorem zj2 {x:Str}(h:zaq x=true):swP x:=by
 have:=ztt (n:=0) h
 exact⟨fun e=>by obtain⟨i,hi,_⟩:=this.1 e;omega,this.2⟩
theorem zwn:swP qM:=⟨fun _=>rfl,by simp[qM],by simp[zlU,qM]⟩
theorem zjz {ws:List Str}{i:Nat}(h:i<ws.length):ws.getD i ⟨[]⟩∈ws:=by
 rw[List.getD_eq_getElem?_getD,List.getElem?_eq_getElem h]
 exact List.getElem_mem _
theorem zmN {nm:Str}{ws:List Str}(h:∀w∈ws,swP w):zbS swP (zcK qM nm ws):=by
 unfold zcK
 simp only[zbS,zaI]
 refine⟨by simp,fun _=>zwn,ziF swP 5 (by decide) ((zg3 _ _).2 fun g hg=>?_),trivial⟩
 rcases List.mem_cons.1 hg with rfl|hg
 ·rw[zbS,zaI]
  exact⟨fun w hw=>by rw[List.mem_singleton.1 hw];exact zwn,fun e=>absurd e (by decide),trivial⟩
 ·obtain⟨i,hi,rfl⟩:=List.mem_map.1 hg
  have hi:=List.mem_range.1 hi
  rw[zbS,zaI]
  refine⟨fun w hw=>?_,fun e=>absurd e (by decide),trivial⟩
  simp only[List.mem_cons,List.not_mem_nil,or_false]at hw
  rcases hw with rfl|rfl
  ·exact zwn
  ·exact h _ (zjz hi)
mutual
theorem zpH (ps:List Str):∀f:zac,zbS (fun w=>zaq w=true) f→zbS swP (zat (zaS qM ps) f)
 | .mk k nm ws s,h=>by
  rw[zbS]at h
  rw[zat]
  rw[zcp]
  split
  ·exact zmN fun w hw=>zj2 (h.1 w hw)
  ·rw[zbS]
   exact⟨fun w hw=>zj2 (h.1 w hw),fun hq=>zj2 (h.2.1 hq),zhW ps s h.2.2⟩
theorem zhW (ps:List Str):∀fs:List zac,zaI (fun w=>zaq w=true) fs→zaI swP (zan (zaS qM ps) fs)
 |[],_=>by rw[zan,zaI];trivial
 |f::fs,h=>by rw[zaI]at h;rw[zan,zaI];exact⟨zpH ps f h.1,zhW ps fs h.2⟩
end
mutual
theorem ziT (ps:List Str):∀(f:zac) (bd:List Str) (x:Str),zbS (fun w=>zaq w=true) f→x∈cst (zat (zaS qM ps) f) bd→x≠qM
 | .mk k nm ws s,bd,x,h,hx=>by
  rw[zbS]at h
  rw[zat]at hx
  rw[zcp]at hx
  split at hx
  ·unfold zcK at hx
   rw[cst,if_pos (show isQ 9 from .inr rfl),zbW,zbW]at hx
   simp only[List.filter_nil,List.nil_append,List.append_nil]at hx
   have:=zkp _ _ _ hx
   intro e
   exact this (by rw[e];simp)
  ·rw[cst,List.mem_append]at hx
   rcases hx with hx|hx
   ·have:=h.1 x (List.mem_filter.1 hx).1
    intro e
    rw[e]at this
    exact absurd this (by decide)
   ·exact zhX ps s _ x h.2.2 hx
theorem zhX (ps:List Str):∀(fs:List zac) (bd:List Str) (x:Str),zaI (fun w=>zaq w=true) fs→x∈zbW (zan (zaS qM ps) fs) bd→x≠qM
 |[],bd,x,_,hx=>by rw[zan,zbW]at hx;simp at hx
 |f::fs,bd,x,h,hx=>by
  rw[zaI]at h
  rw[zan,zbW,List.mem_append]at hx
  rcases hx with hx|hx
  ·exact ziT ps f bd x h.1 hx
  ·exact zhX ps fs bd x h.2 hx
end
theorem zmO (v nm:Str)(ws:List Str):(zcK v nm ws).size≤2*ws.length+4∧(zcK v nm ws).fit=true:=by
 unfold zcK
 have h1:=zpg 5 (.mk 2 nm [v] []::(List.range ws.length).map fun i=> .mk 2 (zqh i) [v,ws.getD i ⟨[]⟩] [])
 have hl:∀g∈(zac.mk 2 nm [v] []::(List.range ws.length).map fun i=>zac.mk 2 (zqh i) [v,ws.getD i ⟨[]⟩] []),g.size≤1∧g.fit=true:=fun g hg=>by
  rcases List.mem_cons.1 hg with rfl|hg
  ·exact⟨by simp[zac.size,zac.sizes],by simp[zac.fit,zac.fits]⟩
  ·obtain⟨i,_,rfl⟩:=List.mem_map.1 hg
   exact⟨by simp[zac.size,zac.sizes],by simp[zac.fit,zac.fits]⟩
 have h2:=zlB (c:=1) _ fun g hg=>(hl g hg).1
 have h3:=zq5 5 ((fits_mem _).2 fun g hg=>(hl g hg).2)
 rw[List.length_cons,List.length_map,List.length_range]at h1 h2
 refine⟨by simp only[zac.size,zac.sizes];omega,?_⟩
 rw[zac.fit,zac.fits,zac.fits,h3];rfl
theorem zmM {v:Str}{ps:List Str}{f:zac}(h:f.fit=true):(zaS v ps f).fit=true:=by
 unfold zaS;split
 ·exact(zmO _ _ _).2
 ·exact h
end Go.Abs
