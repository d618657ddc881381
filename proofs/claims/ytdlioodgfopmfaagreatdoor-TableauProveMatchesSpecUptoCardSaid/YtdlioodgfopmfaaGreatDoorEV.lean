import Derived.Test.YtdlioodgfopmfaaGreatDoorAL
set_option linter.unusedSimpArgs false
namespace Go.Abs
open Go
mutual
def wfE:zac→Prop
 | .mk k nm _ s=>(k=5→s.length=2)∧(k=9→s.length=1)∧(k=2→nm.l≠[])∧zrK s
def zrK:List zac→Prop
 |[]=>True
 |f::fs=>wfE f∧zrK fs
end
mutual
theorem zx5 {op:Bool}:∀(f:zac) (d:Int) (n:Nat),(chk op f d n).1.code=0→wfE f
 | .mk k nm w s,d,n,h=>by
  rw[chk]at h
  split at h
  ·rename_i h1;exact absurd h h1
  ·rename_i h1
   have h2:=zdB (Decidable.not_not.1 h1)
   have h3:=h2.2.2.2.2
   simp only[za9]at h3
   rw[wfE]
   refine⟨fun e=>?_,fun e=>?_,fun e=>?_,zo1 s _ _ h⟩
   ·subst e
    have:zbt op (zac.mk 5 nm w s)=2:=by simp[zbt,zdH,zak]
    omega
   ·subst e
    have:zbt op (zac.mk 9 nm w s)=1:=by simp[zbt,zdH,zak]
    omega
   ·have hn:=h2.2.1 (by unfold named;exact decide_eq_true (.inl e))
    simp only[zcn]at hn
    unfold zas at hn
    have:=(of_decide_eq_true hn).1
    intro e2;rw[e2]at this;simp at this
theorem zo1 {op:Bool}:∀(fs:List zac) (d:Int) (n:Nat),(zeH op fs d n).1.code=0→zrK fs
 |[],d,n,_=>by rw[zrK];trivial
 |f::fs,d,n,h=>by
  rw[zeH]at h
  split at h
  ·rename_i h1;exact absurd h h1
  ·rename_i h1
   rw[zrK]
   exact⟨zx5 f d n (Decidable.not_not.1 h1),zo1 fs d _ h⟩
end
mutual
def zgk:zac→List zac
 | .mk k nm ws s=>if k=5∧s.length=2 then ziL s else[.mk k nm ws s]
def ziL:List zac→List zac
 |[]=>[]
 |f::fs=>zgk f++fs
end
theorem ztc {f a b:zac}(hk:f.kind=5)(hs:f.subs=[a,b]):zgk f=zgk a++[b]:=by
 cases f with
 |mk k nm ws s=>
  simp only[zak,za9]at hk hs
  subst hk hs
  rw[zgk,if_pos ⟨rfl,rfl⟩,ziL]
theorem ztd {f:zac}(h:¬(f.kind=5∧f.subs.length=2)):zgk f=[f]:=by
 cases f with
 |mk k nm ws s=>
  simp only[zak,za9]at h
  rw[zgk,if_neg h]
def zo7:zac:= .mk 0 ⟨[]⟩ [] []
def zcx (f:zac):List zac:=zgk (f.subs.getD 0 zo7)
def zhI (f:zac):zac:=(zcx f).getD 0 zo7
def okE (f:zac):Bool:=decide (f.kind=9)&&decide ((zhI f).kind=2)&&decide ((zhI f).words.length=1)&&decide ((zhI f).words.getD 0 ⟨[]⟩=f.name)
def zr4 (i:Nat):Str:=⟨97::114::103::zaP (i+1)⟩
def zoc (f:zac)(i:Nat)(x:zac):Bool:=decide (x.kind=2)&&decide (x.name=zr4 i)&&decide (x.words.length=2)&&decide (x.words.getD 0 ⟨[]⟩=f.name)&& !decide (x.words.getD 1 ⟨[]⟩=f.name)
def zgf (f:zac):Nat→Bool
 |0=>true
 |i+1=>zgf f i&&zoc f i ((zcx f).getD (i+1) zo7)
def zke (f:zac)(i:Nat):List Str:=(List.range i).map fun j=>((zcx f).getD (j+1) zo7).words.getD 1 ⟨[]⟩
def zc8 (f:zac):Bool:=okE f&&decide (2≤(zcx f).length)&&decide ((zcx f).length≤4)&&zgf f ((zcx f).length-1)
def zbN (f:zac):zac:=if zc8 f then .mk 2 (zhI f).name (zke f ((zcx f).length-1)) []else f
mutual
def zaC (by':zac→zac):zac→zac
 | .mk k nm ws s=>by' (.mk k nm ws (zav by' s))
def zav (by':zac→zac):List zac→List zac
 |[]=>[]
 |f::fs=>zaC by' f::zav by' fs
end
theorem zby (by':zac→zac):∀l:List zac,zav by' l=l.map (zaC by')
 |[]=>by rw[zav];rfl
 |f::l=>by rw[zav,zby by' l];rfl
theorem zqc (by':zac→zac)(f:zac):zaC by' f=by' (.mk f.kind f.name f.words (f.subs.map (zaC by'))):=by cases f;rw[zaC,zby];rfl
theorem zph {f:zac}:∀{n i:Nat},zgf f n=true→i<n→zoc f i ((zcx f).getD (i+1) zo7)=true
 |n+1,i,h,hi=>by
  rw[zgf,Bool.and_eq_true]at h
  rcases Nat.lt_or_ge i n with h1|h1
  ·exact zph h.1 h1
  ·obtain rfl:i=n:=by omega
   exact h.2
theorem zk4 {f:zac}(h:okE f=true):f.kind=9∧(zhI f).kind=2:=by
 unfold okE at h
 simp only[Bool.and_eq_true,decide_eq_true_eq]at h
 exact⟨h.1.1.1,h.1.1.2⟩
theorem zfr {f:zac}(h:zc8 f=true):okE f=true:=by
 unfold zc8 at h
 simp only[Bool.and_eq_true]at h
 exact h.1.1.1
mutual
theorem znU {by':zac→zac}(hb:∀f,wfE f→wfE (by' f)):∀f:zac,wfE f→wfE (zaC by' f)
 | .mk k nm ws s,h=>by
  rw[wfE]at h
  rw[zaC]
  refine hb _ ?_
  rw[wfE,zby,List.length_map]
  refine⟨h.1,h.2.1,h.2.2.1,?_⟩
  rw[←zby]
  exact zeU hb s h.2.2.2
theorem zeU {by':zac→zac}(hb:∀f,wfE f→wfE (by' f)):∀fs:List zac,zrK fs→zrK (zav by' fs)
 |[],_=>by rw[zav,zrK];trivial
 |f::fs,h=>by rw[zrK]at h;rw[zav,zrK];exact⟨znU hb f h.1,zeU hb fs h.2⟩
end
theorem zmQ (f:zac):(zbN f).size≤f.size:=by
 unfold zbN
 split
 ·have:=f.size_pos;simp only[zac.size,zac.sizes];omega
 ·exact Nat.le_refl _
mutual
theorem zhk {by':zac→zac}{c:Nat}(hb:∀f,(by' f).size≤f.size+c):∀f:zac,(zaC by' f).size≤f.size*(c+1)
 | .mk k nm ws s=>by
  rw[zaC]
  have h1:=hb (.mk k nm ws (zav by' s))
  have h2:=zf4 hb s
  rw[zac.size]at h1 ⊢
  rw[Nat.add_mul,Nat.one_mul]
  omega
theorem zf4 {by':zac→zac}{c:Nat}(hb:∀f,(by' f).size≤f.size+c):∀fs:List zac,zac.sizes (zav by' fs)≤zac.sizes fs*(c+1)
 |[]=>by rw[zav,zac.sizes];omega
 |f::fs=>by
  rw[zav,zac.sizes,zac.sizes,Nat.add_mul]
  have h1:=zhk hb f
  have h2:=zf4 hb fs
  omega
end
mutual
theorem zim {by':zac→zac}(hb:∀f,f.fit=true→(by' f).fit=true):∀f:zac,f.fit=true→(zaC by' f).fit=true
 | .mk k nm ws s,h=>by
  rw[zac.fit]at h
  simp only[Bool.and_eq_true]at h
  rw[zaC]
  refine hb _ ?_
  rw[zac.fit,zby,List.length_map,←zby,zhm hb s h.2,h.1.1,h.1.2]
  rfl
theorem zhm {by':zac→zac}(hb:∀f,f.fit=true→(by' f).fit=true):∀fs:List zac,zac.fits fs=true→zac.fits (zav by' fs)=true
 |[],_=>by rw[zav,zac.fits]
 |f::fs,h=>by rw[zac.fits,Bool.and_eq_true]at h;rw[zav,zac.fits,zim hb f h.1,zhm hb fs h.2];rfl
end
mutual
theorem zlQ {by':zac→zac}{p:Str→Prop}(hb:∀f,wfE f→zbQ p f→zbQ p (by' f))(hw:∀f,wfE f→wfE (by' f)):∀f:zac,wfE f→zbQ p f→zbQ p (zaC by' f)
 | .mk k nm ws s,h2,h=>by
  have h3:=h2
  rw[wfE]at h3
  rw[zbQ]at h
  rw[zaC]
  refine hb _ ?_ ?_
  ·rw[wfE,zby,List.length_map]
   refine⟨h3.1,h3.2.1,h3.2.2.1,?_⟩
   rw[←zby]
   exact zeU hw s h3.2.2.2
  ·rw[zbQ];exact⟨h.1,h.2.1,zf3 hb hw s h3.2.2.2 h.2.2⟩
theorem zf3 {by':zac→zac}{p:Str→Prop}(hb:∀f,wfE f→zbQ p f→zbQ p (by' f))(hw:∀f,wfE f→wfE (by' f)):∀fs:List zac,zrK fs→zaS p fs→zaS p (zav by' fs)
 |[],_,_=>by rw[zav,zaS];trivial
 |f::fs,h2,h=>by rw[zaS]at h;rw[zrK]at h2;rw[zav,zaS];exact⟨zlQ hb hw f h2.1 h.1,zf3 hb hw fs h2.2 h.2⟩
end
def qM:Str:=⟨[63]⟩
def dM:Str:=⟨[36]⟩
def zdf (v:Str)(nm:Str)(ws:List Str):zac:= .mk 9 v [] [zez 5 (.mk 2 nm [v] []::(List.range ws.length).map fun i=> .mk 2 (zr4 i) [v,ws.getD i ⟨[]⟩] [])]
def zbi (v:Str)(ps:List Str)(f:zac):zac:=if f.kind=2∧0<f.words.length∧f.name∈ps then zdf v f.name f.words else f
theorem zcU (v:Str)(ps:List Str)(k:Int)(nm:Str)(ws:List Str)(s:List zac):zbi v ps (.mk k nm ws s)=if k=2∧0<ws.length∧nm∈ps then zdf v nm ws else .mk k nm ws s:=rfl
theorem zro (nm:Str)(ws:List Str)(h:∀w∈ws,sg w=w):zgl sg (zdf qM nm ws)=zdf dM nm ws:=by
 have e:sg qM=dM:=rfl
 have hh:(zac.mk 2 nm [qM] []::(List.range ws.length).map fun i=>zac.mk 2 (zr4 i) [qM,ws.getD i ⟨[]⟩] []).map (zgl sg)=zac.mk 2 nm [dM] []::(List.range ws.length).map fun i=>zac.mk 2 (zr4 i) [dM,ws.getD i ⟨[]⟩] []:=by
  rw[List.map_cons,List.map_map]
  congr 1
  refine List.map_congr_left fun i hi=>?_
  have hi:=List.mem_range.1 hi
  have hm:ws.getD i ⟨[]⟩∈ws:=by
   rw[List.getD_eq_getElem?_getD,List.getElem?_eq_getElem hi]
   exact List.getElem_mem _
  show zgl sg (zac.mk 2 (zr4 i) [qM,ws.getD i ⟨[]⟩] [])=_
  rw[zgl,if_neg (by decide),List.map_cons,List.map_cons,List.map_nil,e,h _ hm,zco]
 unfold zdf
 rw[zgl,zco,zco,zs8 sg 5 (by decide),hh,if_pos (show isQ 9 from .inr rfl),e,List.map_nil]
mutual
theorem zt3 (ps:List Str):∀f:zac,zbQ (fun w=>sg w=w) f→zaC (zbi dM ps) f=zgl sg (zaC (zbi qM ps) f)
 | .mk k nm ws s,h=>by
  have h2:=h
  rw[zbQ]at h
  rw[zaC,zaC,zj6 ps s h.2.2]
  rw[zcU,zcU]
  split
  ·rw[zro nm ws h.1]
  ·rw[zgl]
   congr 1
   ·by_cases hq:isQ k
    ·rw[if_pos hq];exact(h.2.1 hq).symm
    ·rw[if_neg hq]
   ·conv=>lhs;rw[←List.map_id ws]
    exact List.map_congr_left fun w hw=>(h.1 w hw).symm
theorem zj6 (ps:List Str):∀fs:List zac,zaS (fun w=>sg w=w) fs→zav (zbi dM ps) fs=zco sg (zav (zbi qM ps) fs)
 |[],_=>by rw[zav,zav,zco]
 |f::fs,h=>by rw[zaS]at h;rw[zav,zav,zco,zt3 ps f h.1,zj6 ps fs h.2]
end
def swP (x:Str):Prop:=(x.l.head? =some 63→x=qM)∧x.l.head? ≠some 36∧¬zfE x
theorem zln {x:Str}(h:zas x=true):swP x:=by
 have:=zwa (n:=0) h
 exact⟨fun e=>by obtain⟨i,hi,_⟩:=this.1 e;omega,this.2⟩
theorem zzj:swP qM:=⟨fun _=>rfl,by simp[qM],by simp[zfE,qM]⟩
theorem zkR {ws:List Str}{i:Nat}(h:i<ws.length):ws.getD i ⟨[]⟩∈ws:=by
 rw[List.getD_eq_getElem?_getD,List.getElem?_eq_getElem h]
 exact List.getElem_mem _
theorem zoA {nm:Str}{ws:List Str}(h:∀w∈ws,swP w):zbQ swP (zdf qM nm ws):=by
 unfold zdf
 simp only[zbQ,zaS]
 refine⟨by simp,fun _=>zzj,zjQ swP 5 (by decide) ((zfX _ _).2 fun g hg=>?_),trivial⟩
 rcases List.mem_cons.1 hg with rfl|hg
 ·rw[zbQ,zaS]
  exact⟨fun w hw=>by rw[List.mem_singleton.1 hw];exact zzj,fun e=>absurd e (by decide),trivial⟩
 ·obtain⟨i,hi,rfl⟩:=List.mem_map.1 hg
  have hi:=List.mem_range.1 hi
  rw[zbQ,zaS]
  refine⟨fun w hw=>?_,fun e=>absurd e (by decide),trivial⟩
  simp only[List.mem_cons,List.not_mem_nil,or_false]at hw
  rcases hw with rfl|rfl
  ·exact zzj
  ·exact h _ (zkR hi)
mutual
theorem zrq (ps:List Str):∀f:zac,zbQ (fun w=>zas w=true) f→zbQ swP (zaC (zbi qM ps) f)
 | .mk k nm ws s,h=>by
  rw[zbQ]at h
  rw[zaC]
  rw[zcU]
  split
  ·exact zoA fun w hw=>zln (h.1 w hw)
  ·rw[zbQ]
   exact⟨fun w hw=>zln (h.1 w hw),fun hq=>zln (h.2.1 hq),zi2 ps s h.2.2⟩
theorem zi2 (ps:List Str):∀fs:List zac,zaS (fun w=>zas w=true) fs→zaS swP (zav (zbi qM ps) fs)
 |[],_=>by rw[zav,zaS];trivial
 |f::fs,h=>by rw[zaS]at h;rw[zav,zaS];exact⟨zrq ps f h.1,zi2 ps fs h.2⟩
end
mutual
theorem zj5 (ps:List Str):∀(f:zac) (bd:List Str) (x:Str),zbQ (fun w=>zas w=true) f→x∈cst (zaC (zbi qM ps) f) bd→x≠qM
 | .mk k nm ws s,bd,x,h,hx=>by
  rw[zbQ]at h
  rw[zaC]at hx
  rw[zcU]at hx
  split at hx
  ·unfold zdf at hx
   rw[cst,if_pos (show isQ 9 from .inr rfl),zbU,zbU]at hx
   simp only[List.filter_nil,List.nil_append,List.append_nil]at hx
   have:=zlZ _ _ _ hx
   intro e
   exact this (by rw[e];simp)
  ·rw[cst,List.mem_append]at hx
   rcases hx with hx|hx
   ·have:=h.1 x (List.mem_filter.1 hx).1
    intro e
    rw[e]at this
    exact absurd this (by decide)
   ·exact zi3 ps s _ x h.2.2 hx
theorem zi3 (ps:List Str):∀(fs:List zac) (bd:List Str) (x:Str),zaS (fun w=>zas w=true) fs→x∈zbU (zav (zbi qM ps) fs) bd→x≠qM
 |[],bd,x,_,hx=>by rw[zav,zbU]at hx;simp at hx
 |f::fs,bd,x,h,hx=>by
  rw[zaS]at h
  rw[zav,zbU,List.mem_append]at hx
  rcases hx with hx|hx
  ·exact zj5 ps f bd x h.1 hx
  ·exact zi3 ps fs bd x h.2 hx
end
theorem zoB (v nm:Str)(ws:List Str):(zdf v nm ws).size≤2*ws.length+4∧(zdf v nm ws).fit=true:=by
 unfold zdf
 have h1:=zqQ 5 (.mk 2 nm [v] []::(List.range ws.length).map fun i=> .mk 2 (zr4 i) [v,ws.getD i ⟨[]⟩] [])
 have hl:∀g∈(zac.mk 2 nm [v] []::(List.range ws.length).map fun i=>zac.mk 2 (zr4 i) [v,ws.getD i ⟨[]⟩] []),g.size≤1∧g.fit=true:=fun g hg=>by
  rcases List.mem_cons.1 hg with rfl|hg
  ·exact⟨by simp[zac.size,zac.sizes],by simp[zac.fit,zac.fits]⟩
  ·obtain⟨i,_,rfl⟩:=List.mem_map.1 hg
   exact⟨by simp[zac.size,zac.sizes],by simp[zac.fit,zac.fits]⟩
 have h2:=znf (c:=1) _ fun g hg=>(hl g hg).1
 have h3:=zs7 5 ((fits_mem _).2 fun g hg=>(hl g hg).2)
 rw[List.length_cons,List.length_map,List.length_range]at h1 h2
 refine⟨by simp only[zac.size,zac.sizes];omega,?_⟩
 rw[zac.fit,zac.fits,zac.fits,h3];rfl
theorem zoz {v:Str}{ps:List Str}{f:zac}(h:f.fit=true):(zbi v ps f).fit=true:=by
 unfold zbi;split
 ·exact(zoB _ _ _).2
 ·exact h
end Go.Abs
