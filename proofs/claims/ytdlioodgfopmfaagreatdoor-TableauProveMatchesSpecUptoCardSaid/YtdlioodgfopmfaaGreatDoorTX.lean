import Derived.Test.YtdlioodgfopmfaaGreatDoorTK
import Derived.Test.YtdlioodgfopmfaaGreatDoorAE
set_option linter.unusedSimpArgs false
namespace Go.Abs
open Go
def jn (sep:List UInt8):List Str→List UInt8
 |[]=>[]
 |w::ws=>w.l++ws.flatMap fun v=>sep++v.l
theorem zs6 {sep:List UInt8}{ws:List Str}{i:Nat}(h:i<ws.length):jn sep (ws.take (i+1))=if i=0 then ws[i].l else jn sep (ws.take i)++sep++ws[i].l:=by
 cases ws with
 |nil=>simp at h
 |cons w ws=>
  cases i with
  |zero=>simp[jn]
  |succ i=>
   have h2:i<ws.length:=by simpa using h
   rw[if_neg (by omega),List.take_succ_cons,List.take_succ_cons,jn,jn,List.take_succ_eq_append_getElem h2,List.flatMap_append]
   simp
theorem ziJ {sep:List UInt8}{ws:List Str}{i:Nat}:(jn sep (ws.take i)).length≤(jn sep ws).length:=by
 cases ws with
 |nil=>simp
 |cons w ws=>
  cases i with
  |zero=>simp[jn]
  |succ i=>
   rw[List.take_succ_cons,jn,jn,List.length_append,List.length_append]
   have:=congrArg (fun l=>(l.flatMap fun v=>sep++Str.l v).length) (List.take_append_drop i ws)
   simp only[List.flatMap_append,List.length_append]at this
   omega
def txN (k:Int)(nm:Str)(ws:List Str)(ts:List (List UInt8)):List UInt8:=
 if k=1 then[116,114,117,101]
 else if k=2 then nm.l++[40]++jn [44] ws++[41]
 else if k=3 then nm.l++[40]++jn [32,61,32] ws++[41]
 else if k=4 then 45::ts.getD 0 []
 else if k=8 then[97,108,108,32]++nm.l++[32]++ts.getD 0 []
 else if k=9 then[115,111,109,101,32]++nm.l++[32]++ts.getD 0 []
 else[40]++ts.getD 0 []++(if k=5 then[32,38,32]else if k=6 then[32,124,32]else[32,62,32])++ts.getD 1 []++[41]
mutual
def txt:zac→List UInt8
 | .mk k nm ws s=>txN k nm ws (zuG s)
def zuG:List zac→List (List UInt8)
 |[]=>[]
 |f::fs=>txt f::zuG fs
end
theorem zCq {f:zac}(h:f.kind=1):txt f=[116,114,117,101]:=by
 obtain⟨k,nm,ws,s⟩:=f
 rw[zak]at h;subst h;rw[txt];rfl
theorem zCr {f:zac}(h:f.kind=2):txt f=f.name.l++[40]++jn [44] f.words++[41]:=by
 obtain⟨k,nm,ws,s⟩:=f
 rw[zak]at h;subst h;rw[txt];rfl
theorem zCs {f:zac}(h:f.kind=3):txt f=f.name.l++[40]++jn [32,61,32] f.words++[41]:=by
 obtain⟨k,nm,ws,s⟩:=f
 rw[zak]at h;subst h;rw[txt];rfl
theorem zzk {f a:zac}(h:f.kind=4)(hs:f.subs=[a]):txt f=45::txt a:=by
 obtain⟨k,nm,ws,s⟩:=f
 rw[zak]at h;subst h
 rw[za9]at hs;subst hs;rw[txt,zuG,zuG];rfl
theorem zzm {f a:zac}(h:f.kind=8)(hs:f.subs=[a]):txt f=[97,108,108,32]++f.name.l++[32]++txt a:=by
 obtain⟨k,nm,ws,s⟩:=f
 rw[zak]at h;subst h
 rw[za9]at hs;subst hs;rw[txt,zuG,zuG];rfl
theorem zzn {f a:zac}(h:f.kind=9)(hs:f.subs=[a]):txt f=[115,111,109,101,32]++f.name.l++[32]++txt a:=by
 obtain⟨k,nm,ws,s⟩:=f
 rw[zak]at h;subst h
 rw[za9]at hs;subst hs;rw[txt,zuG,zuG];rfl
def sgn (k:Int):List UInt8:=if k=5 then[32,38,32]else if k=6 then[32,124,32]else[32,62,32]
theorem zzl {f a b:zac}(h:f.kind=5∨f.kind=6∨f.kind=7)(hs:f.subs=[a,b]):txt f=[40]++txt a++sgn f.kind++txt b++[41]:=by
 obtain⟨k,nm,ws,s⟩:=f
 rw[zak]at h
 rw[za9]at hs;subst hs;rw[txt,zuG,zuG,zuG]
 unfold txN
 rw[if_neg (by omega),if_neg (by omega),if_neg (by omega),if_neg (by omega),if_neg (by omega),if_neg (by omega)]
 rfl
def txS (f:zac):Str:=⟨txt f⟩
structure txP (f:zac):Prop where
 v:vok f
 ft:f.fit=true
 l:(txt f).length≤1000000000
theorem txP.sub {f g:zac}(h:txP f)(hg:g∈f.subs)(hl:(txt g).length≤(txt f).length):txP g:=by
 have hv:=h.v
 obtain⟨k,nm,ws,s⟩:=f
 rw[vok]at hv
 have hf:=h.ft
 rw[zac.fit]at hf
 simp only[Bool.and_eq_true]at hf
 exact⟨(zly s).1 hv.2.2.2.2.2.2 g hg,zac.fits_mem hf.2 hg,Nat.le_trans hl h.l⟩
theorem zuE {f:zac}(h:txP f)(hk:f.kind=4∨f.kind=8∨f.kind=9):∃a,f.subs=[a]∧txP a∧a.size<f.size:=by
 have h1:=(zbf.1 h.v).2.2.2.2.1 hk
 match hs:f.subs,h1 with
 |[a],_=>
  refine⟨a,rfl,h.sub (by rw[hs];simp) ?_,by rw[zcY hs];omega⟩
  rcases hk with hk|hk|hk
  ·rw[zzk hk hs];simp
  ·rw[zzm hk hs];simp;omega
  ·rw[zzn hk hs];simp;omega
theorem zCp {f:zac}(h:txP f)(hk:f.kind=5∨f.kind=6∨f.kind=7):∃a b,f.subs=[a,b]∧txP a∧txP b∧a.size<f.size∧b.size<f.size∧(txt a).length+(txt b).length+5≤1000000000:=by
 have h1:=(zbf.1 h.v).2.2.2.2.2.1 hk
 match hs:f.subs,h1 with
 |[a,b],_=>
  have ht:=zzl hk hs
  have hg:(sgn f.kind).length=3:=by unfold sgn;split<;>(try split)<;>rfl
  have hl:(txt f).length=(txt a).length+(txt b).length+5:=by rw[ht];simp[hg];omega
  have:=h.l
  refine⟨a,b,rfl,h.sub (by rw[hs];simp) (by omega),h.sub (by rw[hs];simp) (by omega),?_,?_,by omega⟩
  ·rw[zdl hs];omega
  ·rw[zdl hs];omega
end Go.Abs
