import Derived.Test.YtkkffhphodngkaaGreatDoorY17
import Derived.Test.YtkkffhphodngkaaGreatDoorAE
set_option linter.unusedSimpArgs false
namespace Go.Abs
open Go
def jn (sep:List UInt8):List Str→List UInt8
 |[]=>[]
 |w::ws=>w.l++ws.flatMap fun v=>sep++v.l
def txN (k:Int)(nm:Str)(ws:List Str)(ts:List (List UInt8)):List UInt8:=
 if k=1 then[116,114,117,101]
 else if k=2 then nm.l++[40]++jn [44] ws++[41]
 else if k=3 then nm.l++[40]++jn [32,61,32] ws++[41]
 else if k=4 then 45::ts.getD 0 []
 else if k=8 then[97,108,108,32]++nm.l++[32]++ts.getD 0 []
 else if k=9 then[115,111,109,101,32]++nm.l++[32]++ts.getD 0 []
 else[40]++ts.getD 0 []++(if k=5 then[32,38,32]else if k=6 then[32,124,32]else[32,62,32])++ts.getD 1 []++[41]
mutual
def txt:zab→List UInt8
 | .mk k nm ws s=>txN k nm ws (zvH s)
def zvH:List zab→List (List UInt8)
 |[]=>[]
 |f::fs=>txt f::zvH fs
end
theorem zH1 {f:zab}(h:f.kind=1):txt f=[116,114,117,101]:=by
 obtain⟨k,nm,ws,s⟩:=f
 rw[zah]at h;subst h;rw[txt];rfl
theorem zH2 {f:zab}(h:f.kind=2):txt f=f.name.l++[40]++jn [44] f.words++[41]:=by
 obtain⟨k,nm,ws,s⟩:=f
 rw[zah]at h;subst h;rw[txt];rfl
theorem zH3 {f:zab}(h:f.kind=3):txt f=f.name.l++[40]++jn [32,61,32] f.words++[41]:=by
 obtain⟨k,nm,ws,s⟩:=f
 rw[zah]at h;subst h;rw[txt];rfl
theorem zH4 {f a:zab}(h:f.kind=4)(hs:f.subs=[a]):txt f=45::txt a:=by
 obtain⟨k,nm,ws,s⟩:=f
 rw[zah]at h;subst h
 rw[zaK]at hs;subst hs;rw[txt,zvH,zvH];rfl
theorem zH6 {f a:zab}(h:f.kind=8)(hs:f.subs=[a]):txt f=[97,108,108,32]++f.name.l++[32]++txt a:=by
 obtain⟨k,nm,ws,s⟩:=f
 rw[zah]at h;subst h
 rw[zaK]at hs;subst hs;rw[txt,zvH,zvH];rfl
theorem zH7 {f a:zab}(h:f.kind=9)(hs:f.subs=[a]):txt f=[115,111,109,101,32]++f.name.l++[32]++txt a:=by
 obtain⟨k,nm,ws,s⟩:=f
 rw[zah]at h;subst h
 rw[zaK]at hs;subst hs;rw[txt,zvH,zvH];rfl
def sgn (k:Int):List UInt8:=if k=5 then[32,38,32]else if k=6 then[32,124,32]else[32,62,32]
theorem zH5 {f a b:zab}(h:f.kind=5∨f.kind=6∨f.kind=7)(hs:f.subs=[a,b]):txt f=[40]++txt a++sgn f.kind++txt b++[41]:=by
 obtain⟨k,nm,ws,s⟩:=f
 rw[zah]at h
 rw[zaK]at hs;subst hs;rw[txt,zvH,zvH,zvH]
 unfold txN
 rw[if_neg (by omega),if_neg (by omega),if_neg (by omega),if_neg (by omega),if_neg (by omega),if_neg (by omega)]
 rfl
structure txP (f:zab):Prop where
 v:vok f
 ft:f.fit=true
 l:(txt f).length≤1000000000
theorem txP.sub {f g:zab}(h:txP f)(hg:g∈f.subs)(hl:(txt g).length≤(txt f).length):txP g:=by
 have hv:=h.v
 obtain⟨k,nm,ws,s⟩:=f
 rw[vok]at hv
 have hf:=h.ft
 rw[zab.fit]at hf
 simp only[Bool.and_eq_true]at hf
 exact⟨(zfC s).1 hv.2.2.2.2.2.2 g hg,zab.fits_mem hf.2 hg,Nat.le_trans hl h.l⟩
end Go.Abs
