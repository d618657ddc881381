import Derived.Test.YtkkffhphodngkaaDoorVS
import Derived.Test.YtkkffhphodngkaaDoorAL
set_option linter.unusedSimpArgs false
namespace Go.Abs
open Go
def cnn (f:zac):zac:=zb0 f []
def ngg (f:zac):zac:=zb0 (zy9 f) []
def zfR (f:zac):zac:=f.subs.getD 0 (.mk 0 ⟨[]⟩ [] [])
def zxs (f:zac):zac:=f.subs.getD 1 (.mk 0 ⟨[]⟩ [] [])
def zep (f:zac):Int×List zac×zac×Bool:=
 if f.kind=5 then(1,[cnn (zfR f),cnn (zxs f)],zgF,false)
 else if f.kind=6 then(2,[cnn (zfR f),cnn (zxs f)],zgF,false)
 else if f.kind=7 then(2,[ngg (zfR f),cnn (zxs f)],zgF,false)
 else if f.kind=8 then(3,[],f,false)
 else if f.kind=9 then(4,[],f,false)
 else if f.kind=4 then
  if(zfR f).kind=4 then(1,[cnn (zfR (zfR f))],zgF,false)
  else if(zfR f).kind=5 then(2,[ngg (zfR (zfR f)),ngg (zxs (zfR f))],zgF,false)
  else if(zfR f).kind=6 then(1,[ngg (zfR (zfR f)),ngg (zxs (zfR f))],zgF,false)
  else if(zfR f).kind=7 then(1,[cnn (zfR (zfR f)),ngg (zxs (zfR f))],zgF,false)
  else if(zfR f).kind=8 then(4,[],zfR f,true)
  else if(zfR f).kind=9 then(3,[],zfR f,true)
  else(0,[],zgF,false)
 else(0,[],zgF,false)
structure brF (f:zac):Prop where
 v:vok f
 ft:f.fit=true
 s:f.size≤800
theorem brF.sub {f g:zac}(h:brF f)(hg:g∈f.subs):brF g:=by
 have hv:=h.v
 obtain⟨k,nm,ws,s⟩:=f
 rw[vok]at hv
 have hf:=h.ft
 rw[zac.fit]at hf
 simp only[Bool.and_eq_true]at hf
 exact⟨(zeI s).1 hv.2.2.2.2.2.2 g hg,zac.fits_mem hf.2 hg,by have:=zac.size_sub hg;have:=h.s;omega⟩
def zly (c:List zbI)(w:Str):Str:=c.foldl (fun r l=>if r=l.fr then l.to else r) w
structure wfC (c:List zbI):Prop where
 d:∀i j (hi:i<c.length) (hj:j<c.length),j<i→c[j].fr≠c[i].fr
 t:∀i j (hi:i<c.length) (hj:j<c.length),j≤i→c[j].fr≠c[i].to
def zGc (c:List zbI)(f:zac):List zbI:=
 if f.kind≠3 then c
 else if zly c (f.words.getD 0 ⟨[]⟩)=zly c (f.words.getD 1 ⟨[]⟩)then c
 else c++[⟨zly c (f.words.getD 0 ⟨[]⟩),zly c (f.words.getD 1 ⟨[]⟩)⟩]
def zDo (l:List zac):List zbI:=l.foldl zGc []
def zBf (c:List zbI)(f g:zac):Bool:=decide (f.kind=2)&&decide (g.kind=2)&&decide (f.name=g.name)&&decide (f.words.map (zly c)=g.words.map (zly c))
def zFx (c:List zbI)(f:zac):Bool:=decide (f.kind=4)&&(decide ((zfR f).kind=1)||decide ((zfR f).kind=3)&&decide (zly c ((zfR f).words.getD 0 ⟨[]⟩)=zly c ((zfR f).words.getD 1 ⟨[]⟩)))
end Go.Abs
