import Derived.Test.YtkkffhphodngkaaDoorAL
set_option linter.unusedSimpArgs false
namespace Go.Abs
open Go
mutual
def wfE:zaf→Prop
 | .mk k nm _ s=>(k=5→s.length=2)∧(k=9→s.length=1)∧(k=2→nm.l≠[])∧zqQ s
def zqQ:List zaf→Prop
 |[]=>True
 |f::fs=>wfE f∧zqQ fs
end
mutual
theorem zwd {op:Bool}:∀(f:zaf) (d:Int) (n:Nat),(chk op f d n).1.code=0→wfE f
 | .mk k nm w s,d,n,h=>by
  rw[chk]at h
  split at h
  ·rename_i h1;exact absurd h h1
  ·rename_i h1
   have h2:=zdk (Decidable.not_not.1 h1)
   have h3:=h2.2.2.2.2
   simp only[zaW]at h3
   rw[wfE]
   refine⟨fun e=>?_,fun e=>?_,fun e=>?_,zoa s _ _ h⟩
   ·subst e
    have:zbl op (zaf.mk 5 nm w s)=2:=by simp[zbl,zd3,zaz]
    omega
   ·subst e
    have:zbl op (zaf.mk 9 nm w s)=1:=by simp[zbl,zd3,zaz]
    omega
   ·have hn:=h2.2.1 (by unfold named;exact decide_eq_true (.inl e))
    simp only[zeI]at hn
    unfold zax at hn
    have:=(of_decide_eq_true hn).1
    intro e2;rw[e2]at this;simp at this
theorem zoa {op:Bool}:∀(fs:List zaf) (d:Int) (n:Nat),(zek op fs d n).1.code=0→zqQ fs
 |[],d,n,_=>by rw[zqQ];trivial
 |f::fs,d,n,h=>by
  rw[zek]at h
  split at h
  ·rename_i h1;exact absurd h h1
  ·rename_i h1
   rw[zqQ]
   exact⟨zwd f d n (Decidable.not_not.1 h1),zoa fs d _ h⟩
end
mutual
def zfZ:zaf→List zaf
 | .mk k nm ws s=>if k=5∧s.length=2 then zif s else[.mk k nm ws s]
def zif:List zaf→List zaf
 |[]=>[]
 |f::fs=>zfZ f++fs
end
theorem zr4 {f a b:zaf}(hk:f.kind=5)(hs:f.subs=[a,b]):zfZ f=zfZ a++[b]:=by
 cases f with
 |mk k nm ws s=>
  simp only[zaz,zaW]at hk hs
  subst hk hs
  rw[zfZ,if_pos ⟨rfl,rfl⟩,zif]
theorem zr5 {f:zaf}(h:¬(f.kind=5∧f.subs.length=2)):zfZ f=[f]:=by
 cases f with
 |mk k nm ws s=>
  simp only[zaz,zaW]at h
  rw[zfZ,if_neg h]
theorem zmy {s:List zaf}(h:s.length=2):∃a b,s=[a,b]:=by
 match s,h with
 |[a,b],_=>exact⟨a,b,rfl⟩
theorem zoL {s:List zaf}(h:s.length=1):∃a,s=[a]:=by
 match s,h with
 |[a],_=>exact⟨a,rfl⟩
def zom:zaf:= .mk 0 ⟨[]⟩ [] []
def zce (f:zaf):List zaf:=zfZ (f.subs.getD 0 zom)
def zhg (f:zaf):zaf:=(zce f).getD 0 zom
def okE (f:zaf):Bool:=decide (f.kind=9)&&decide ((zhg f).kind=2)&&decide ((zhg f).words.length=1)&&decide ((zhg f).words.getD 0 ⟨[]⟩=f.name)
def zrb (i:Nat):Str:=⟨97::114::103::zco (i+1)⟩
def znk (f:zaf)(i:Nat)(x:zaf):Bool:=decide (x.kind=2)&&decide (x.name=zrb i)&&decide (x.words.length=2)&&decide (x.words.getD 0 ⟨[]⟩=f.name)&& !decide (x.words.getD 1 ⟨[]⟩=f.name)
def zfV (f:zaf):Nat→Bool
 |0=>true
 |i+1=>zfV f i&&znk f i ((zce f).getD (i+1) zom)
def zjC (f:zaf)(i:Nat):List Str:=(List.range i).map fun j=>((zce f).getD (j+1) zom).words.getD 1 ⟨[]⟩
def zcN (f:zaf):Bool:=okE f&&decide (2≤(zce f).length)&&decide ((zce f).length≤4)&&zfV f ((zce f).length-1)
def zbv (f:zaf):zaf:=if zcN f then .mk 2 (zhg f).name (zjC f ((zce f).length-1)) []else f
mutual
def zav (by':zaf→zaf):zaf→zaf
 | .mk k nm ws s=>by' (.mk k nm ws (zap by' s))
def zap (by':zaf→zaf):List zaf→List zaf
 |[]=>[]
 |f::fs=>zav by' f::zap by' fs
end
theorem zbj (by':zaf→zaf):∀l:List zaf,zap by' l=l.map (zav by')
 |[]=>by rw[zap];rfl
 |f::l=>by rw[zap,zbj by' l];rfl
theorem zpv (by':zaf→zaf)(f:zaf):zav by' f=by' (.mk f.kind f.name f.words (f.subs.map (zav by'))):=by cases f;rw[zav,zbj];rfl
theorem zov {f:zaf}:∀{n i:Nat},zfV f n=true→i<n→znk f i ((zce f).getD (i+1) zom)=true
 |n+1,i,h,hi=>by
  rw[zfV,Bool.and_eq_true]at h
  rcases Nat.lt_or_ge i n with h1|h1
  ·exact zov h.1 h1
  ·obtain rfl:i=n:=by omega
   exact h.2
theorem zkr {f:zaf}(h:okE f=true):f.kind=9∧(zhg f).kind=2:=by
 unfold okE at h
 simp only[Bool.and_eq_true,decide_eq_true_eq]at h
 exact⟨h.1.1.1,h.1.1.2⟩
theorem ze1 {f:zaf}(h:zcN f=true):okE f=true:=by
 unfold zcN at h
 simp only[Bool.and_eq_true]at h
 exact h.1.1.1
mutual
theorem zm1 {by':zaf→zaf}(hb:∀f,wfE f→wfE (by' f)):∀f:zaf,wfE f→wfE (zav by' f)
 | .mk k nm ws s,h=>by
  rw[wfE]at h
  rw[zav]
  refine hb _ ?_
  rw[wfE,zbj,List.length_map]
  refine⟨h.1,h.2.1,h.2.2.1,?_⟩
  rw[←zbj]
  exact zew hb s h.2.2.2
theorem zew {by':zaf→zaf}(hb:∀f,wfE f→wfE (by' f)):∀fs:List zaf,zqQ fs→zqQ (zap by' fs)
 |[],_=>by rw[zap,zqQ];trivial
 |f::fs,h=>by rw[zqQ]at h;rw[zap,zqQ];exact⟨zm1 hb f h.1,zew hb fs h.2⟩
end
theorem zlZ (f:zaf):(zbv f).size≤f.size:=by
 unfold zbv
 split
 ·have:=f.size_pos;simp only[zaf.size,zaf.sizes];omega
 ·exact Nat.le_refl _
mutual
theorem zgT {by':zaf→zaf}{c:Nat}(hb:∀f,(by' f).size≤f.size+c):∀f:zaf,(zav by' f).size≤f.size*(c+1)
 | .mk k nm ws s=>by
  rw[zav]
  have h1:=hb (.mk k nm ws (zap by' s))
  have h2:=zfH hb s
  rw[zaf.size]at h1 ⊢
  rw[Nat.add_mul,Nat.one_mul]
  omega
theorem zfH {by':zaf→zaf}{c:Nat}(hb:∀f,(by' f).size≤f.size+c):∀fs:List zaf,zaf.sizes (zap by' fs)≤zaf.sizes fs*(c+1)
 |[]=>by rw[zap,zaf.sizes];omega
 |f::fs=>by
  rw[zap,zaf.sizes,zaf.sizes,Nat.add_mul]
  have h1:=zgT hb f
  have h2:=zfH hb fs
  omega
end
mutual
theorem zhR {by':zaf→zaf}(hb:∀f,f.fit=true→(by' f).fit=true):∀f:zaf,f.fit=true→(zav by' f).fit=true
 | .mk k nm ws s,h=>by
  rw[zaf.fit]at h
  simp only[Bool.and_eq_true]at h
  rw[zav]
  refine hb _ ?_
  rw[zaf.fit,zbj,List.length_map,←zbj,zgV hb s h.2,h.1.1,h.1.2]
  rfl
theorem zgV {by':zaf→zaf}(hb:∀f,f.fit=true→(by' f).fit=true):∀fs:List zaf,zaf.fits fs=true→zaf.fits (zap by' fs)=true
 |[],_=>by rw[zap,zaf.fits]
 |f::fs,h=>by rw[zaf.fits,Bool.and_eq_true]at h;rw[zap,zaf.fits,zhR hb f h.1,zgV hb fs h.2];rfl
end
mutual
theorem zk0 {by':zaf→zaf}{p:Str→Prop}(hb:∀f,wfE f→zb5 p f→zb5 p (by' f))(hw:∀f,wfE f→wfE (by' f)):∀f:zaf,wfE f→zb5 p f→zb5 p (zav by' f)
 | .mk k nm ws s,h2,h=>by
  have h3:=h2
  rw[wfE]at h3
  rw[zb5]at h
  rw[zav]
  refine hb _ ?_ ?_
  ·rw[wfE,zbj,List.length_map]
   refine⟨h3.1,h3.2.1,h3.2.2.1,?_⟩
   rw[←zbj]
   exact zew hw s h3.2.2.2
  ·rw[zb5];exact⟨h.1,h.2.1,zfG hb hw s h3.2.2.2 h.2.2⟩
theorem zfG {by':zaf→zaf}{p:Str→Prop}(hb:∀f,wfE f→zb5 p f→zb5 p (by' f))(hw:∀f,wfE f→wfE (by' f)):∀fs:List zaf,zqQ fs→zaN p fs→zaN p (zap by' fs)
 |[],_,_=>by rw[zap,zaN];trivial
 |f::fs,h2,h=>by rw[zaN]at h;rw[zqQ]at h2;rw[zap,zaN];exact⟨zk0 hb hw f h2.1 h.1,zfG hb hw fs h2.2 h.2⟩
end
def qM:Str:=⟨[63]⟩
def dM:Str:=⟨[36]⟩
def zcU (v:Str)(nm:Str)(ws:List Str):zaf:= .mk 9 v [] [zef 5 (.mk 2 nm [v] []::(List.range ws.length).map fun i=> .mk 2 (zrb i) [v,ws.getD i ⟨[]⟩] [])]
def za2 (v:Str)(ps:List Str)(f:zaf):zaf:=if f.kind=2∧0<f.words.length∧f.name∈ps then zcU v f.name f.words else f
theorem zcy (v:Str)(ps:List Str)(k:Int)(nm:Str)(ws:List Str)(s:List zaf):za2 v ps (.mk k nm ws s)=if k=2∧0<ws.length∧nm∈ps then zcU v nm ws else .mk k nm ws s:=rfl
theorem zqy (nm:Str)(ws:List Str)(h:∀w∈ws,sg w=w):zf1 sg (zcU qM nm ws)=zcU dM nm ws:=by
 have e:sg qM=dM:=rfl
 have hh:(zaf.mk 2 nm [qM] []::(List.range ws.length).map fun i=>zaf.mk 2 (zrb i) [qM,ws.getD i ⟨[]⟩] []).map (zf1 sg)=zaf.mk 2 nm [dM] []::(List.range ws.length).map fun i=>zaf.mk 2 (zrb i) [dM,ws.getD i ⟨[]⟩] []:=by
  rw[List.map_cons,List.map_map]
  congr 1
  refine List.map_congr_left fun i hi=>?_
  have hi:=List.mem_range.1 hi
  have hm:ws.getD i ⟨[]⟩∈ws:=by
   rw[List.getD_eq_getElem?_getD,List.getElem?_eq_getElem hi]
   exact List.getElem_mem _
  show zf1 sg (zaf.mk 2 (zrb i) [qM,ws.getD i ⟨[]⟩] [])=_
  rw[zf1,if_neg (by decide),List.map_cons,List.map_cons,List.map_nil,e,h _ hm,zb2]
 unfold zcU
 rw[zf1,zb2,zb2,zrX sg 5 (by decide),hh,if_pos (show isQ 9 from .inr rfl),e,List.map_nil]
mutual
theorem zsP (ps:List Str):∀f:zaf,zb5 (fun w=>sg w=w) f→zav (za2 dM ps) f=zf1 sg (zav (za2 qM ps) f)
 | .mk k nm ws s,h=>by
  have h2:=h
  rw[zb5]at h
  rw[zav,zav,zjw ps s h.2.2]
  rw[zcy,zcy]
  split
  ·rw[zqy nm ws h.1]
  ·rw[zf1]
   congr 1
   ·by_cases hq:isQ k
    ·rw[if_pos hq];exact(h.2.1 hq).symm
    ·rw[if_neg hq]
   ·conv=>lhs;rw[←List.map_id ws]
    exact List.map_congr_left fun w hw=>(h.1 w hw).symm
theorem zjw (ps:List Str):∀fs:List zaf,zaN (fun w=>sg w=w) fs→zap (za2 dM ps) fs=zb2 sg (zap (za2 qM ps) fs)
 |[],_=>by rw[zap,zap,zb2]
 |f::fs,h=>by rw[zaN]at h;rw[zap,zap,zb2,zsP ps f h.1,zjw ps fs h.2]
end
def swP (x:Str):Prop:=(x.l.head? =some 63→x=qM)∧x.l.head? ≠some 36∧¬zmF x
theorem zkK {x:Str}(h:zax x=true):swP x:=by
 have:=zuB (n:=0) h
 exact⟨fun e=>by obtain⟨i,hi,_⟩:=this.1 e;omega,this.2⟩
theorem zxC:swP qM:=⟨fun _=>rfl,by simp[qM],by simp[zmF,qM]⟩
theorem zkd {ws:List Str}{i:Nat}(h:i<ws.length):ws.getD i ⟨[]⟩∈ws:=by
 rw[List.getD_eq_getElem?_getD,List.getElem?_eq_getElem h]
 exact List.getElem_mem _
theorem znD {nm:Str}{ws:List Str}(h:∀w∈ws,swP w):zb5 swP (zcU qM nm ws):=by
 unfold zcU
 simp only[zb5,zaN]
 refine⟨by simp,fun _=>zxC,zjk swP 5 (by decide) ((zhK _ _).2 fun g hg=>?_),trivial⟩
 rcases List.mem_cons.1 hg with rfl|hg
 ·rw[zb5,zaN]
  exact⟨fun w hw=>by rw[List.mem_singleton.1 hw];exact zxC,fun e=>absurd e (by decide),trivial⟩
 ·obtain⟨i,hi,rfl⟩:=List.mem_map.1 hg
  have hi:=List.mem_range.1 hi
  rw[zb5,zaN]
  refine⟨fun w hw=>?_,fun e=>absurd e (by decide),trivial⟩
  simp only[List.mem_cons,List.not_mem_nil,or_false]at hw
  rcases hw with rfl|rfl
  ·exact zxC
  ·exact h _ (zkd hi)
mutual
theorem zqA (ps:List Str):∀f:zaf,zb5 (fun w=>zax w=true) f→zb5 swP (zav (za2 qM ps) f)
 | .mk k nm ws s,h=>by
  rw[zb5]at h
  rw[zav]
  rw[zcy]
  split
  ·exact znD fun w hw=>zkK (h.1 w hw)
  ·rw[zb5]
   exact⟨fun w hw=>zkK (h.1 w hw),fun hq=>zkK (h.2.1 hq),ziC ps s h.2.2⟩
theorem ziC (ps:List Str):∀fs:List zaf,zaN (fun w=>zax w=true) fs→zaN swP (zap (za2 qM ps) fs)
 |[],_=>by rw[zap,zaN];trivial
 |f::fs,h=>by rw[zaN]at h;rw[zap,zaN];exact⟨zqA ps f h.1,ziC ps fs h.2⟩
end
mutual
theorem zjv (ps:List Str):∀(f:zaf) (bd:List Str) (x:Str),zb5 (fun w=>zax w=true) f→x∈cst (zav (za2 qM ps) f) bd→x≠qM
 | .mk k nm ws s,bd,x,h,hx=>by
  rw[zb5]at h
  rw[zav]at hx
  rw[zcy]at hx
  split at hx
  ·unfold zcU at hx
   rw[cst,if_pos (show isQ 9 from .inr rfl),zb8,zb8]at hx
   simp only[List.filter_nil,List.nil_append,List.append_nil]at hx
   have:=zk8 _ _ _ hx
   intro e
   exact this (by rw[e];simp)
  ·rw[cst,List.mem_append]at hx
   rcases hx with hx|hx
   ·have:=h.1 x (List.mem_filter.1 hx).1
    intro e
    rw[e]at this
    exact absurd this (by decide)
   ·exact ziD ps s _ x h.2.2 hx
theorem ziD (ps:List Str):∀(fs:List zaf) (bd:List Str) (x:Str),zaN (fun w=>zax w=true) fs→x∈zb8 (zap (za2 qM ps) fs) bd→x≠qM
 |[],bd,x,_,hx=>by rw[zap,zb8]at hx;simp at hx
 |f::fs,bd,x,h,hx=>by
  rw[zaN]at h
  rw[zap,zb8,List.mem_append]at hx
  rcases hx with hx|hx
  ·exact zjv ps f bd x h.1 hx
  ·exact ziD ps fs bd x h.2 hx
end
theorem znE (v nm:Str)(ws:List Str):(zcU v nm ws).size≤2*ws.length+4∧(zcU v nm ws).fit=true:=by
 unfold zcU
 have h1:=zp9 5 (.mk 2 nm [v] []::(List.range ws.length).map fun i=> .mk 2 (zrb i) [v,ws.getD i ⟨[]⟩] [])
 have hl:∀g∈(zaf.mk 2 nm [v] []::(List.range ws.length).map fun i=>zaf.mk 2 (zrb i) [v,ws.getD i ⟨[]⟩] []),g.size≤1∧g.fit=true:=fun g hg=>by
  rcases List.mem_cons.1 hg with rfl|hg
  ·exact⟨by simp[zaf.size,zaf.sizes],by simp[zaf.fit,zaf.fits]⟩
  ·obtain⟨i,_,rfl⟩:=List.mem_map.1 hg
   exact⟨by simp[zaf.size,zaf.sizes],by simp[zaf.fit,zaf.fits]⟩
 have h2:=zmk (c:=1) _ fun g hg=>(hl g hg).1
 have h3:=zrW 5 ((fits_mem _).2 fun g hg=>(hl g hg).2)
 rw[List.length_cons,List.length_map,List.length_range]at h1 h2
 refine⟨by simp only[zaf.size,zaf.sizes];omega,?_⟩
 rw[zaf.fit,zaf.fits,zaf.fits,h3];rfl
theorem znC {v:Str}{ps:List Str}{f:zaf}(h:f.fit=true):(za2 v ps f).fit=true:=by
 unfold za2;split
 ·exact(znE _ _ _).2
 ·exact h
end Go.Abs
