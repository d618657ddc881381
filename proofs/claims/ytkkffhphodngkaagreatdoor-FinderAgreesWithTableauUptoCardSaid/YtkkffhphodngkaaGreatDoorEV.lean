import Derived.Test.YtkkffhphodngkaaGreatDoorY16
set_option linter.unusedSimpArgs false
namespace Go.Abs
open Go
mutual
def wfE:zab→Prop
 | .mk k nm _ s=>(k=5→s.length=2)∧(k=9→s.length=1)∧(k=2→nm.l≠[])∧zsQ s
def zsQ:List zab→Prop
 |[]=>True
 |f::fs=>wfE f∧zsQ fs
end
mutual
theorem zzu {op:Bool}:∀(f:zab) (d:Int) (n:Nat),(chk op f d n).1.code=0→wfE f
 | .mk k nm w s,d,n,h=>by
  rw[chk]at h
  split at h
  ·rename_i h1;exact absurd h h1
  ·rename_i h1
   have h2:=zdI (Decidable.not_not.1 h1)
   have h3:=h2.2.2.2.2
   simp only[zaK]at h3
   rw[wfE]
   refine⟨fun e=>?_,fun e=>?_,fun e=>?_,zpK s _ _ h⟩
   ·subst e
    have:zbn op (zab.mk 5 nm w s)=2:=by simp[zbn,zdO,zah]
    omega
   ·subst e
    have:zbn op (zab.mk 9 nm w s)=1:=by simp[zbn,zdO,zah]
    omega
   ·have hn:=h2.2.1 (by unfold named;exact decide_eq_true (.inl e))
    simp only[zb2]at hn
    unfold zat at hn
    have:=(of_decide_eq_true hn).1
    intro e2;rw[e2]at this;simp at this
theorem zpK {op:Bool}:∀(fs:List zab) (d:Int) (n:Nat),(zea op fs d n).1.code=0→zsQ fs
 |[],d,n,_=>by rw[zsQ];trivial
 |f::fs,d,n,h=>by
  rw[zea]at h
  split at h
  ·rename_i h1;exact absurd h h1
  ·rename_i h1
   rw[zsQ]
   exact⟨zzu f d n (Decidable.not_not.1 h1),zpK fs d _ h⟩
end
mutual
def zgn:zab→List zab
 | .mk k nm ws s=>if k=5∧s.length=2 then ziC s else[.mk k nm ws s]
def ziC:List zab→List zab
 |[]=>[]
 |f::fs=>zgn f++fs
end
theorem zus {f a b:zab}(hk:f.kind=5)(hs:f.subs=[a,b]):zgn f=zgn a++[b]:=by
 cases f with
 |mk k nm ws s=>
  simp only[zah,zaK]at hk hs
  subst hk hs
  rw[zgn,if_pos ⟨rfl,rfl⟩,ziC]
theorem zut {f:zab}(h:¬(f.kind=5∧f.subs.length=2)):zgn f=[f]:=by
 cases f with
 |mk k nm ws s=>
  simp only[zah,zaK]at h
  rw[zgn,if_neg h]
theorem zEg {s:List zab}(h:s.length=2):∃a b,s=[a,b]:=by
 match s,h with
 |[a,b],_=>exact⟨a,b,rfl⟩
theorem zDN {s:List zab}(h:s.length=1):∃a,s=[a]:=by
 match s,h with
 |[a],_=>exact⟨a,rfl⟩
def zpZ:zab:= .mk 0 ⟨[]⟩ [] []
def zcv (f:zab):List zab:=zgn (f.subs.getD 0 zpZ)
def zhG (f:zab):zab:=(zcv f).getD 0 zpZ
def okE (f:zab):Bool:=decide (f.kind=9)&&decide ((zhG f).kind=2)&&decide ((zhG f).words.length=1)&&decide ((zhG f).words.getD 0 ⟨[]⟩=f.name)
def zta (i:Nat):Str:=⟨97::114::103::zbr (i+1)⟩
def zoQ (f:zab)(i:Nat)(x:zab):Bool:=decide (x.kind=2)&&decide (x.name=zta i)&&decide (x.words.length=2)&&decide (x.words.getD 0 ⟨[]⟩=f.name)&& !decide (x.words.getD 1 ⟨[]⟩=f.name)
def zgl (f:zab):Nat→Bool
 |0=>true
 |i+1=>zgl f i&&zoQ f i ((zcv f).getD (i+1) zpZ)
def zki (f:zab)(i:Nat):List Str:=(List.range i).map fun j=>((zcv f).getD (j+1) zpZ).words.getD 1 ⟨[]⟩
def zdg (f:zab):Bool:=okE f&&decide (2≤(zcv f).length)&&decide ((zcv f).length≤4)&&zgl f ((zcv f).length-1)
def zbG (f:zab):zab:=if zdg f then .mk 2 (zhG f).name (zki f ((zcv f).length-1)) []else f
mutual
def zay (by':zab→zab):zab→zab
 | .mk k nm ws s=>by' (.mk k nm ws (zap by' s))
def zap (by':zab→zab):List zab→List zab
 |[]=>[]
 |f::fs=>zay by' f::zap by' fs
end
theorem zbv (by':zab→zab):∀l:List zab,zap by' l=l.map (zay by')
 |[]=>by rw[zap];rfl
 |f::l=>by rw[zap,zbv by' l];rfl
theorem zrm (by':zab→zab)(f:zab):zay by' f=by' (.mk f.kind f.name f.words (f.subs.map (zay by'))):=by cases f;rw[zay,zbv];rfl
theorem zqa {f:zab}:∀{n i:Nat},zgl f n=true→i<n→zoQ f i ((zcv f).getD (i+1) zpZ)=true
 |n+1,i,h,hi=>by
  rw[zgl,Bool.and_eq_true]at h
  rcases Nat.lt_or_ge i n with h1|h1
  ·exact zqa h.1 h1
  ·obtain rfl:i=n:=by omega
   exact h.2
theorem zlg {f:zab}(h:okE f=true):f.kind=9∧(zhG f).kind=2:=by
 unfold okE at h
 simp only[Bool.and_eq_true,decide_eq_true_eq]at h
 exact⟨h.1.1.1,h.1.1.2⟩
theorem zfx {f:zab}(h:zdg f=true):okE f=true:=by
 unfold zdg at h
 simp only[Bool.and_eq_true]at h
 exact h.1.1.1
mutual
theorem zou {by':zab→zab}(hb:∀f,wfE f→wfE (by' f)):∀f:zab,wfE f→wfE (zay by' f)
 | .mk k nm ws s,h=>by
  rw[wfE]at h
  rw[zay]
  refine hb _ ?_
  rw[wfE,zbv,List.length_map]
  refine⟨h.1,h.2.1,h.2.2.1,?_⟩
  rw[←zbv]
  exact ze0 hb s h.2.2.2
theorem ze0 {by':zab→zab}(hb:∀f,wfE f→wfE (by' f)):∀fs:List zab,zsQ fs→zsQ (zap by' fs)
 |[],_=>by rw[zap,zsQ];trivial
 |f::fs,h=>by rw[zsQ]at h;rw[zap,zsQ];exact⟨zou hb f h.1,ze0 hb fs h.2⟩
end
theorem zng (f:zab):(zbG f).size≤f.size:=by
 unfold zbG
 split
 ·have:=f.size_pos;simp only[zab.size,zab.sizes];omega
 ·exact Nat.le_refl _
mutual
theorem zhk {by':zab→zab}{c:Nat}(hb:∀f,(by' f).size≤f.size+c):∀f:zab,(zay by' f).size≤f.size*(c+1)
 | .mk k nm ws s=>by
  rw[zay]
  have h1:=hb (.mk k nm ws (zap by' s))
  have h2:=zf6 hb s
  rw[zab.size]at h1 ⊢
  rw[Nat.add_mul,Nat.one_mul]
  omega
theorem zf6 {by':zab→zab}{c:Nat}(hb:∀f,(by' f).size≤f.size+c):∀fs:List zab,zab.sizes (zap by' fs)≤zab.sizes fs*(c+1)
 |[]=>by rw[zap,zab.sizes];omega
 |f::fs=>by
  rw[zap,zab.sizes,zab.sizes,Nat.add_mul]
  have h1:=zhk hb f
  have h2:=zf6 hb fs
  omega
end
mutual
theorem zif {by':zab→zab}(hb:∀f,f.fit=true→(by' f).fit=true):∀f:zab,f.fit=true→(zay by' f).fit=true
 | .mk k nm ws s,h=>by
  rw[zab.fit]at h
  simp only[Bool.and_eq_true]at h
  rw[zay]
  refine hb _ ?_
  rw[zab.fit,zbv,List.length_map,←zbv,zhm hb s h.2,h.1.1,h.1.2]
  rfl
theorem zhm {by':zab→zab}(hb:∀f,f.fit=true→(by' f).fit=true):∀fs:List zab,zab.fits fs=true→zab.fits (zap by' fs)=true
 |[],_=>by rw[zap,zab.fits]
 |f::fs,h=>by rw[zab.fits,Bool.and_eq_true]at h;rw[zap,zab.fits,zif hb f h.1,zhm hb fs h.2];rfl
end
mutual
theorem zmf {by':zab→zab}{p:Str→Prop}(hb:∀f,wfE f→zbK p f→zbK p (by' f))(hw:∀f,wfE f→wfE (by' f)):∀f:zab,wfE f→zbK p f→zbK p (zay by' f)
 | .mk k nm ws s,h2,h=>by
  have h3:=h2
  rw[wfE]at h3
  rw[zbK]at h
  rw[zay]
  refine hb _ ?_ ?_
  ·rw[wfE,zbv,List.length_map]
   refine⟨h3.1,h3.2.1,h3.2.2.1,?_⟩
   rw[←zbv]
   exact ze0 hw s h3.2.2.2
  ·rw[zbK];exact⟨h.1,h.2.1,zf5 hb hw s h3.2.2.2 h.2.2⟩
theorem zf5 {by':zab→zab}{p:Str→Prop}(hb:∀f,wfE f→zbK p f→zbK p (by' f))(hw:∀f,wfE f→wfE (by' f)):∀fs:List zab,zsQ fs→zaQ p fs→zaQ p (zap by' fs)
 |[],_,_=>by rw[zap,zaQ];trivial
 |f::fs,h2,h=>by rw[zaQ]at h;rw[zsQ]at h2;rw[zap,zaQ];exact⟨zmf hb hw f h2.1 h.1,zf5 hb hw fs h2.2 h.2⟩
end
def qM:Str:=⟨[63]⟩
def dM:Str:=⟨[36]⟩
def zdn (v:Str)(nm:Str)(ws:List Str):zab:= .mk 9 v [] [zeD 5 (.mk 2 nm [v] []::(List.range ws.length).map fun i=> .mk 2 (zta i) [v,ws.getD i ⟨[]⟩] [])]
def zba (v:Str)(ps:List Str)(f:zab):zab:=if f.kind=2∧0<f.words.length∧f.name∈ps then zdn v f.name f.words else f
theorem zcY (v:Str)(ps:List Str)(k:Int)(nm:Str)(ws:List Str)(s:List zab):zba v ps (.mk k nm ws s)=if k=2∧0<ws.length∧nm∈ps then zdn v nm ws else .mk k nm ws s:=rfl
theorem zsu (nm:Str)(ws:List Str)(h:∀w∈ws,sg w=w):zgp sg (zdn qM nm ws)=zdn dM nm ws:=by
 have e:sg qM=dM:=rfl
 have hh:(zab.mk 2 nm [qM] []::(List.range ws.length).map fun i=>zab.mk 2 (zta i) [qM,ws.getD i ⟨[]⟩] []).map (zgp sg)=zab.mk 2 nm [dM] []::(List.range ws.length).map fun i=>zab.mk 2 (zta i) [dM,ws.getD i ⟨[]⟩] []:=by
  rw[List.map_cons,List.map_map]
  congr 1
  refine List.map_congr_left fun i hi=>?_
  have hi:=List.mem_range.1 hi
  have hm:ws.getD i ⟨[]⟩∈ws:=by
   rw[List.getD_eq_getElem?_getD,List.getElem?_eq_getElem hi]
   exact List.getElem_mem _
  show zgp sg (zab.mk 2 (zta i) [qM,ws.getD i ⟨[]⟩] [])=_
  rw[zgp,if_neg (by decide),List.map_cons,List.map_cons,List.map_nil,e,h _ hm,zcd]
 unfold zdn
 rw[zgp,zcd,zcd,zum sg 5 (by decide),hh,if_pos (show isQ 9 from .inr rfl),e,List.map_nil]
mutual
theorem zvi (ps:List Str):∀f:zab,zbK (fun w=>sg w=w) f→zay (zba dM ps) f=zgp sg (zay (zba qM ps) f)
 | .mk k nm ws s,h=>by
  have h2:=h
  rw[zbK]at h
  rw[zay,zay,zke ps s h.2.2]
  rw[zcY,zcY]
  split
  ·rw[zsu nm ws h.1]
  ·rw[zgp]
   congr 1
   ·by_cases hq:isQ k
    ·rw[if_pos hq];exact(h.2.1 hq).symm
    ·rw[if_neg hq]
   ·conv=>lhs;rw[←List.map_id ws]
    exact List.map_congr_left fun w hw=>(h.1 w hw).symm
theorem zke (ps:List Str):∀fs:List zab,zaQ (fun w=>sg w=w) fs→zap (zba dM ps) fs=zcd sg (zap (zba qM ps) fs)
 |[],_=>by rw[zap,zap,zcd]
 |f::fs,h=>by rw[zaQ]at h;rw[zap,zap,zcd,zvi ps f h.1,zke ps fs h.2]
end
def swP (x:Str):Prop:=(x.l.head? =some 63→x=qM)∧x.l.head? ≠some 36∧¬zn8 x
theorem zlC {x:Str}(h:zat x=true):swP x:=by
 have:=zxt (n:=0) h
 exact⟨fun e=>by obtain⟨i,hi,_⟩:=this.1 e;omega,this.2⟩
theorem zAW:swP qM:=⟨fun _=>rfl,by simp[qM],by simp[zn8,qM]⟩
theorem zkX {ws:List Str}{i:Nat}(h:i<ws.length):ws.getD i ⟨[]⟩∈ws:=by
 rw[List.getD_eq_getElem?_getD,List.getElem?_eq_getElem h]
 exact List.getElem_mem _
theorem zph {nm:Str}{ws:List Str}(h:∀w∈ws,swP w):zbK swP (zdn qM nm ws):=by
 unfold zdn
 simp only[zbK,zaQ]
 refine⟨by simp,fun _=>zAW,zjX swP 5 (by decide) ((zf1 _ _).2 fun g hg=>?_),trivial⟩
 rcases List.mem_cons.1 hg with rfl|hg
 ·rw[zbK,zaQ]
  exact⟨fun w hw=>by rw[List.mem_singleton.1 hw];exact zAW,fun e=>absurd e (by decide),trivial⟩
 ·obtain⟨i,hi,rfl⟩:=List.mem_map.1 hg
  have hi:=List.mem_range.1 hi
  rw[zbK,zaQ]
  refine⟨fun w hw=>?_,fun e=>absurd e (by decide),trivial⟩
  simp only[List.mem_cons,List.not_mem_nil,or_false]at hw
  rcases hw with rfl|rfl
  ·exact zAW
  ·exact h _ (zkX hi)
mutual
theorem zsw (ps:List Str):∀f:zab,zbK (fun w=>zat w=true) f→zbK swP (zay (zba qM ps) f)
 | .mk k nm ws s,h=>by
  rw[zbK]at h
  rw[zay]
  rw[zcY]
  split
  ·exact zph fun w hw=>zlC (h.1 w hw)
  ·rw[zbK]
   exact⟨fun w hw=>zlC (h.1 w hw),fun hq=>zlC (h.2.1 hq),zi1 ps s h.2.2⟩
theorem zi1 (ps:List Str):∀fs:List zab,zaQ (fun w=>zat w=true) fs→zaQ swP (zap (zba qM ps) fs)
 |[],_=>by rw[zap,zaQ];trivial
 |f::fs,h=>by rw[zaQ]at h;rw[zap,zaQ];exact⟨zsw ps f h.1,zi1 ps fs h.2⟩
end
mutual
theorem zkd (ps:List Str):∀(f:zab) (bd:List Str) (x:Str),zbK (fun w=>zat w=true) f→x∈cst (zay (zba qM ps) f) bd→x≠qM
 | .mk k nm ws s,bd,x,h,hx=>by
  rw[zbK]at h
  rw[zay]at hx
  rw[zcY]at hx
  split at hx
  ·unfold zdn at hx
   rw[cst,if_pos (show isQ 9 from .inr rfl),zbC,zbC]at hx
   simp only[List.filter_nil,List.nil_append,List.append_nil]at hx
   have:=zmo _ _ _ hx
   intro e
   exact this (by rw[e];simp)
  ·rw[cst,List.mem_append]at hx
   rcases hx with hx|hx
   ·have:=h.1 x (List.mem_filter.1 hx).1
    intro e
    rw[e]at this
    exact absurd this (by decide)
   ·exact zi2 ps s _ x h.2.2 hx
theorem zi2 (ps:List Str):∀(fs:List zab) (bd:List Str) (x:Str),zaQ (fun w=>zat w=true) fs→x∈zbC (zap (zba qM ps) fs) bd→x≠qM
 |[],bd,x,_,hx=>by rw[zap,zbC]at hx;simp at hx
 |f::fs,bd,x,h,hx=>by
  rw[zaQ]at h
  rw[zap,zbC,List.mem_append]at hx
  rcases hx with hx|hx
  ·exact zkd ps f bd x h.1 hx
  ·exact zi2 ps fs bd x h.2 hx
end
theorem zpi (v nm:Str)(ws:List Str):(zdn v nm ws).size≤2*ws.length+4∧(zdn v nm ws).fit=true:=by
 unfold zdn
 have h1:=zrX 5 (.mk 2 nm [v] []::(List.range ws.length).map fun i=> .mk 2 (zta i) [v,ws.getD i ⟨[]⟩] [])
 have hl:∀g∈(zab.mk 2 nm [v] []::(List.range ws.length).map fun i=>zab.mk 2 (zta i) [v,ws.getD i ⟨[]⟩] []),g.size≤1∧g.fit=true:=fun g hg=>by
  rcases List.mem_cons.1 hg with rfl|hg
  ·exact⟨by simp[zab.size,zab.sizes],by simp[zab.fit,zab.fits]⟩
  ·obtain⟨i,_,rfl⟩:=List.mem_map.1 hg
   exact⟨by simp[zab.size,zab.sizes],by simp[zab.fit,zab.fits]⟩
 have h2:=znN (c:=1) _ fun g hg=>(hl g hg).1
 have h3:=zul 5 ((fits_mem _).2 fun g hg=>(hl g hg).2)
 rw[List.length_cons,List.length_map,List.length_range]at h1 h2
 refine⟨by simp only[zab.size,zab.sizes];omega,?_⟩
 rw[zab.fit,zab.fits,zab.fits,h3];rfl
theorem zpg {v:Str}{ps:List Str}{f:zab}(h:f.fit=true):(zba v ps f).fit=true:=by
 unfold zba;split
 ·exact(zpi _ _ _).2
 ·exact h
end Go.Abs
