import Derived.Test.YtkkffhphodngkabGreatDoorY16
set_option linter.unusedSimpArgs false
namespace Go.Abs
open Go
mutual
def wfE:zac→Prop
 | .mk k nm _ s=>(k=5→s.length=2)∧(k=9→s.length=1)∧(k=2→nm.l≠[])∧ztE s
def ztE:List zac→Prop
 |[]=>True
 |f::fs=>wfE f∧ztE fs
end
mutual
theorem zAB {op:Bool}:∀(f:zac) (d:Int) (n:Nat),(chk op f d n).1.code=0→wfE f
 | .mk k nm w s,d,n,h=>by
  rw[chk]at h
  split at h
  ·rename_i h1;exact absurd h h1
  ·rename_i h1
   have h2:=zdS (Decidable.not_not.1 h1)
   have h3:=h2.2.2.2.2
   simp only[zaM]at h3
   rw[wfE]
   refine⟨fun e=>?_,fun e=>?_,fun e=>?_,zqw s _ _ h⟩
   ·subst e
    have:zcj op (zac.mk 5 nm w s)=2:=by simp[zcj,zg0,zai]
    omega
   ·subst e
    have:zcj op (zac.mk 9 nm w s)=1:=by simp[zcj,zg0,zai]
    omega
   ·have hn:=h2.2.1 (by unfold named;exact decide_eq_true (.inl e))
    simp only[zbV]at hn
    unfold zas at hn
    have:=(of_decide_eq_true hn).1
    intro e2;rw[e2]at this;simp at this
theorem zqw {op:Bool}:∀(fs:List zac) (d:Int) (n:Nat),(zfb op fs d n).1.code=0→ztE fs
 |[],d,n,_=>by rw[ztE];trivial
 |f::fs,d,n,h=>by
  rw[zfb]at h
  split at h
  ·rename_i h1;exact absurd h h1
  ·rename_i h1
   rw[ztE]
   exact⟨zAB f d n (Decidable.not_not.1 h1),zqw fs d _ h⟩
end
mutual
def zgN:zac→List zac
 | .mk k nm ws s=>if k=5∧s.length=2 then zjb s else[.mk k nm ws s]
def zjb:List zac→List zac
 |[]=>[]
 |f::fs=>zgN f++fs
end
theorem zvk {f a b:zac}(hk:f.kind=5)(hs:f.subs=[a,b]):zgN f=zgN a++[b]:=by
 cases f with
 |mk k nm ws s=>
  simp only[zai,zaM]at hk hs
  subst hk hs
  rw[zgN,if_pos ⟨rfl,rfl⟩,zjb]
theorem zvl {f:zac}(h:¬(f.kind=5∧f.subs.length=2)):zgN f=[f]:=by
 cases f with
 |mk k nm ws s=>
  simp only[zai,zaM]at h
  rw[zgN,if_neg h]
theorem zFD {s:List zac}(h:s.length=2):∃a b,s=[a,b]:=by
 match s,h with
 |[a,b],_=>exact⟨a,b,rfl⟩
theorem zE8 {s:List zac}(h:s.length=1):∃a,s=[a]:=by
 match s,h with
 |[a],_=>exact⟨a,rfl⟩
def zqH:zac:= .mk 0 ⟨[]⟩ [] []
def zcJ (f:zac):List zac:=zgN (f.subs.getD 0 zqH)
def zia (f:zac):zac:=(zcJ f).getD 0 zqH
def okE (f:zac):Bool:=decide (f.kind=9)&&decide ((zia f).kind=2)&&decide ((zia f).words.length=1)&&decide ((zia f).words.getD 0 ⟨[]⟩=f.name)
def zt0 (i:Nat):Str:=⟨97::114::103::zbv (i+1)⟩
def zpy (f:zac)(i:Nat)(x:zac):Bool:=decide (x.kind=2)&&decide (x.name=zt0 i)&&decide (x.words.length=2)&&decide (x.words.getD 0 ⟨[]⟩=f.name)&& !decide (x.words.getD 1 ⟨[]⟩=f.name)
def zgK (f:zac):Nat→Bool
 |0=>true
 |i+1=>zgK f i&&zpy f i ((zcJ f).getD (i+1) zqH)
def zkO (f:zac)(i:Nat):List Str:=(List.range i).map fun j=>((zcJ f).getD (j+1) zqH).words.getD 1 ⟨[]⟩
def zdo (f:zac):Bool:=okE f&&decide (2≤(zcJ f).length)&&decide ((zcJ f).length≤4)&&zgK f ((zcJ f).length-1)
def zbO (f:zac):zac:=if zdo f then .mk 2 (zia f).name (zkO f ((zcJ f).length-1)) []else f
mutual
def zaD (by':zac→zac):zac→zac
 | .mk k nm ws s=>by' (.mk k nm ws (zau by' s))
def zau (by':zac→zac):List zac→List zac
 |[]=>[]
 |f::fs=>zaD by' f::zau by' fs
end
theorem zbB (by':zac→zac):∀l:List zac,zau by' l=l.map (zaD by')
 |[]=>by rw[zau];rfl
 |f::l=>by rw[zau,zbB by' l];rfl
theorem zr3 (by':zac→zac)(f:zac):zaD by' f=by' (.mk f.kind f.name f.words (f.subs.map (zaD by'))):=by cases f;rw[zaD,zbB];rfl
theorem zqR {f:zac}:∀{n i:Nat},zgK f n=true→i<n→zpy f i ((zcJ f).getD (i+1) zqH)=true
 |n+1,i,h,hi=>by
  rw[zgK,Bool.and_eq_true]at h
  rcases Nat.lt_or_ge i n with h1|h1
  ·exact zqR h.1 h1
  ·obtain rfl:i=n:=by omega
   exact h.2
theorem zlS {f:zac}(h:okE f=true):f.kind=9∧(zia f).kind=2:=by
 unfold okE at h
 simp only[Bool.and_eq_true,decide_eq_true_eq]at h
 exact⟨h.1.1.1,h.1.1.2⟩
theorem zfO {f:zac}(h:zdo f=true):okE f=true:=by
 unfold zdo at h
 simp only[Bool.and_eq_true]at h
 exact h.1.1.1
mutual
theorem zo8 {by':zac→zac}(hb:∀f,wfE f→wfE (by' f)):∀f:zac,wfE f→wfE (zaD by' f)
 | .mk k nm ws s,h=>by
  rw[wfE]at h
  rw[zaD]
  refine hb _ ?_
  rw[wfE,zbB,List.length_map]
  refine⟨h.1,h.2.1,h.2.2.1,?_⟩
  rw[←zbB]
  exact zfg hb s h.2.2.2
theorem zfg {by':zac→zac}(hb:∀f,wfE f→wfE (by' f)):∀fs:List zac,ztE fs→ztE (zau by' fs)
 |[],_=>by rw[zau,ztE];trivial
 |f::fs,h=>by rw[ztE]at h;rw[zau,ztE];exact⟨zo8 hb f h.1,zfg hb fs h.2⟩
end
theorem znU (f:zac):(zbO f).size≤f.size:=by
 unfold zbO
 split
 ·have:=f.size_pos;simp only[zac.size,zac.sizes];omega
 ·exact Nat.le_refl _
mutual
theorem zhO {by':zac→zac}{c:Nat}(hb:∀f,(by' f).size≤f.size+c):∀f:zac,(zaD by' f).size≤f.size*(c+1)
 | .mk k nm ws s=>by
  rw[zaD]
  have h1:=hb (.mk k nm ws (zau by' s))
  have h2:=zgw hb s
  rw[zac.size]at h1 ⊢
  rw[Nat.add_mul,Nat.one_mul]
  omega
theorem zgw {by':zac→zac}{c:Nat}(hb:∀f,(by' f).size≤f.size+c):∀fs:List zac,zac.sizes (zau by' fs)≤zac.sizes fs*(c+1)
 |[]=>by rw[zau,zac.sizes];omega
 |f::fs=>by
  rw[zau,zac.sizes,zac.sizes,Nat.add_mul]
  have h1:=zhO hb f
  have h2:=zgw hb fs
  omega
end
mutual
theorem ziL {by':zac→zac}(hb:∀f,f.fit=true→(by' f).fit=true):∀f:zac,f.fit=true→(zaD by' f).fit=true
 | .mk k nm ws s,h=>by
  rw[zac.fit]at h
  simp only[Bool.and_eq_true]at h
  rw[zaD]
  refine hb _ ?_
  rw[zac.fit,zbB,List.length_map,←zbB,zhQ hb s h.2,h.1.1,h.1.2]
  rfl
theorem zhQ {by':zac→zac}(hb:∀f,f.fit=true→(by' f).fit=true):∀fs:List zac,zac.fits fs=true→zac.fits (zau by' fs)=true
 |[],_=>by rw[zau,zac.fits]
 |f::fs,h=>by rw[zac.fits,Bool.and_eq_true]at h;rw[zau,zac.fits,ziL hb f h.1,zhQ hb fs h.2];rfl
end
mutual
theorem zmO {by':zac→zac}{p:Str→Prop}(hb:∀f,wfE f→zbU p f→zbU p (by' f))(hw:∀f,wfE f→wfE (by' f)):∀f:zac,wfE f→zbU p f→zbU p (zaD by' f)
 | .mk k nm ws s,h2,h=>by
  have h3:=h2
  rw[wfE]at h3
  rw[zbU]at h
  rw[zaD]
  refine hb _ ?_ ?_
  ·rw[wfE,zbB,List.length_map]
   refine⟨h3.1,h3.2.1,h3.2.2.1,?_⟩
   rw[←zbB]
   exact zfg hw s h3.2.2.2
  ·rw[zbU];exact⟨h.1,h.2.1,zgv hb hw s h3.2.2.2 h.2.2⟩
theorem zgv {by':zac→zac}{p:Str→Prop}(hb:∀f,wfE f→zbU p f→zbU p (by' f))(hw:∀f,wfE f→wfE (by' f)):∀fs:List zac,ztE fs→zaR p fs→zaR p (zau by' fs)
 |[],_,_=>by rw[zau,zaR];trivial
 |f::fs,h2,h=>by rw[zaR]at h;rw[ztE]at h2;rw[zau,zaR];exact⟨zmO hb hw f h2.1 h.1,zgv hb hw fs h2.2 h.2⟩
end
def qM:Str:=⟨[63]⟩
def dM:Str:=⟨[36]⟩
def zdt (v:Str)(nm:Str)(ws:List Str):zac:= .mk 9 v [] [zeP 5 (.mk 2 nm [v] []::(List.range ws.length).map fun i=> .mk 2 (zt0 i) [v,ws.getD i ⟨[]⟩] [])]
def zbd (v:Str)(ps:List Str)(f:zac):zac:=if f.kind=2∧0<f.words.length∧f.name∈ps then zdt v f.name f.words else f
theorem zda (v:Str)(ps:List Str)(k:Int)(nm:Str)(ws:List Str)(s:List zac):zbd v ps (.mk k nm ws s)=if k=2∧0<ws.length∧nm∈ps then zdt v nm ws else .mk k nm ws s:=rfl
theorem ztg (nm:Str)(ws:List Str)(h:∀w∈ws,sg w=w):zgP sg (zdt qM nm ws)=zdt dM nm ws:=by
 have e:sg qM=dM:=rfl
 have hh:(zac.mk 2 nm [qM] []::(List.range ws.length).map fun i=>zac.mk 2 (zt0 i) [qM,ws.getD i ⟨[]⟩] []).map (zgP sg)=zac.mk 2 nm [dM] []::(List.range ws.length).map fun i=>zac.mk 2 (zt0 i) [dM,ws.getD i ⟨[]⟩] []:=by
  rw[List.map_cons,List.map_map]
  congr 1
  refine List.map_congr_left fun i hi=>?_
  have hi:=List.mem_range.1 hi
  have hm:ws.getD i ⟨[]⟩∈ws:=by
   rw[List.getD_eq_getElem?_getD,List.getElem?_eq_getElem hi]
   exact List.getElem_mem _
  show zgP sg (zac.mk 2 (zt0 i) [qM,ws.getD i ⟨[]⟩] [])=_
  rw[zgP,if_neg (by decide),List.map_cons,List.map_cons,List.map_nil,e,h _ hm,zct]
 unfold zdt
 rw[zgP,zct,zct,zve sg 5 (by decide),hh,if_pos (show isQ 9 from .inr rfl),e,List.map_nil]
mutual
theorem zwe (ps:List Str):∀f:zac,zbU (fun w=>sg w=w) f→zaD (zbd dM ps) f=zgP sg (zaD (zbd qM ps) f)
 | .mk k nm ws s,h=>by
  have h2:=h
  rw[zbU]at h
  rw[zaD,zaD,zkK ps s h.2.2]
  rw[zda,zda]
  split
  ·rw[ztg nm ws h.1]
  ·rw[zgP]
   congr 1
   ·by_cases hq:isQ k
    ·rw[if_pos hq];exact(h.2.1 hq).symm
    ·rw[if_neg hq]
   ·conv=>lhs;rw[←List.map_id ws]
    exact List.map_congr_left fun w hw=>(h.1 w hw).symm
theorem zkK (ps:List Str):∀fs:List zac,zaR (fun w=>sg w=w) fs→zau (zbd dM ps) fs=zct sg (zau (zbd qM ps) fs)
 |[],_=>by rw[zau,zau,zct]
 |f::fs,h=>by rw[zaR]at h;rw[zau,zau,zct,zwe ps f h.1,zkK ps fs h.2]
end
def swP (x:Str):Prop:=(x.l.head? =some 63→x=qM)∧x.l.head? ≠some 36∧¬zoI x
theorem zmd {x:Str}(h:zas x=true):swP x:=by
 have:=zyt (n:=0) h
 exact⟨fun e=>by obtain⟨i,hi,_⟩:=this.1 e;omega,this.2⟩
theorem zBW:swP qM:=⟨fun _=>rfl,by simp[qM],by simp[zoI,qM]⟩
theorem zlv {ws:List Str}{i:Nat}(h:i<ws.length):ws.getD i ⟨[]⟩∈ws:=by
 rw[List.getD_eq_getElem?_getD,List.getElem?_eq_getElem h]
 exact List.getElem_mem _
theorem zp1 {nm:Str}{ws:List Str}(h:∀w∈ws,swP w):zbU swP (zdt qM nm ws):=by
 unfold zdt
 simp only[zbU,zaR]
 refine⟨by simp,fun _=>zBW,zkv swP 5 (by decide) ((zgp _ _).2 fun g hg=>?_),trivial⟩
 rcases List.mem_cons.1 hg with rfl|hg
 ·rw[zbU,zaR]
  exact⟨fun w hw=>by rw[List.mem_singleton.1 hw];exact zBW,fun e=>absurd e (by decide),trivial⟩
 ·obtain⟨i,hi,rfl⟩:=List.mem_map.1 hg
  have hi:=List.mem_range.1 hi
  rw[zbU,zaR]
  refine⟨fun w hw=>?_,fun e=>absurd e (by decide),trivial⟩
  simp only[List.mem_cons,List.not_mem_nil,or_false]at hw
  rcases hw with rfl|rfl
  ·exact zBW
  ·exact h _ (zlv hi)
mutual
theorem zti (ps:List Str):∀f:zac,zbU (fun w=>zas w=true) f→zbU swP (zaD (zbd qM ps) f)
 | .mk k nm ws s,h=>by
  rw[zbU]at h
  rw[zaD]
  rw[zda]
  split
  ·exact zp1 fun w hw=>zmd (h.1 w hw)
  ·rw[zbU]
   exact⟨fun w hw=>zmd (h.1 w hw),fun hq=>zmd (h.2.1 hq),zjC ps s h.2.2⟩
theorem zjC (ps:List Str):∀fs:List zac,zaR (fun w=>zas w=true) fs→zaR swP (zau (zbd qM ps) fs)
 |[],_=>by rw[zau,zaR];trivial
 |f::fs,h=>by rw[zaR]at h;rw[zau,zaR];exact⟨zti ps f h.1,zjC ps fs h.2⟩
end
mutual
theorem zkJ (ps:List Str):∀(f:zac) (bd:List Str) (x:Str),zbU (fun w=>zas w=true) f→x∈cst (zaD (zbd qM ps) f) bd→x≠qM
 | .mk k nm ws s,bd,x,h,hx=>by
  rw[zbU]at h
  rw[zaD]at hx
  rw[zda]at hx
  split at hx
  ·unfold zdt at hx
   rw[cst,if_pos (show isQ 9 from .inr rfl),zbN,zbN]at hx
   simp only[List.filter_nil,List.nil_append,List.append_nil]at hx
   have:=zmZ _ _ _ hx
   intro e
   exact this (by rw[e];simp)
  ·rw[cst,List.mem_append]at hx
   rcases hx with hx|hx
   ·have:=h.1 x (List.mem_filter.1 hx).1
    intro e
    rw[e]at this
    exact absurd this (by decide)
   ·exact zjD ps s _ x h.2.2 hx
theorem zjD (ps:List Str):∀(fs:List zac) (bd:List Str) (x:Str),zaR (fun w=>zas w=true) fs→x∈zbN (zau (zbd qM ps) fs) bd→x≠qM
 |[],bd,x,_,hx=>by rw[zau,zbN]at hx;simp at hx
 |f::fs,bd,x,h,hx=>by
  rw[zaR]at h
  rw[zau,zbN,List.mem_append]at hx
  rcases hx with hx|hx
  ·exact zkJ ps f bd x h.1 hx
  ·exact zjD ps fs bd x h.2 hx
end
theorem zp2 (v nm:Str)(ws:List Str):(zdt v nm ws).size≤2*ws.length+4∧(zdt v nm ws).fit=true:=by
 unfold zdt
 have h1:=zsI 5 (.mk 2 nm [v] []::(List.range ws.length).map fun i=> .mk 2 (zt0 i) [v,ws.getD i ⟨[]⟩] [])
 have hl:∀g∈(zac.mk 2 nm [v] []::(List.range ws.length).map fun i=>zac.mk 2 (zt0 i) [v,ws.getD i ⟨[]⟩] []),g.size≤1∧g.fit=true:=fun g hg=>by
  rcases List.mem_cons.1 hg with rfl|hg
  ·exact⟨by simp[zac.size,zac.sizes],by simp[zac.fit,zac.fits]⟩
  ·obtain⟨i,_,rfl⟩:=List.mem_map.1 hg
   exact⟨by simp[zac.size,zac.sizes],by simp[zac.fit,zac.fits]⟩
 have h2:=zoo (c:=1) _ fun g hg=>(hl g hg).1
 have h3:=zvd 5 ((fits_mem _).2 fun g hg=>(hl g hg).2)
 rw[List.length_cons,List.length_map,List.length_range]at h1 h2
 refine⟨by simp only[zac.size,zac.sizes];omega,?_⟩
 rw[zac.fit,zac.fits,zac.fits,h3];rfl
theorem zp0 {v:Str}{ps:List Str}{f:zac}(h:f.fit=true):(zbd v ps f).fit=true:=by
 unfold zbd;split
 ·exact(zp2 _ _ _).2
 ·exact h
end Go.Abs
