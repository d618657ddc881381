import Derived.Test.YtkkffhphodngkaaDoorVS
import Derived.Test.YtkkffhphodngkaaDoorAL
set_option linter.unusedSimpArgs false
namespace Go.Abs
open Go
def cnn (f:zaf):zaf:=zcc f []
def ngg (f:zaf):zaf:=zcc (zxb f) []
def zgo (f:zaf):zaf:=f.subs.getD 0 (.mk 0 ⟨[]⟩ [] [])
def zyE (f:zaf):zaf:=f.subs.getD 1 (.mk 0 ⟨[]⟩ [] [])
def zeL (f:zaf):Int×List zaf×zaf×Bool:=
 if f.kind=5 then(1,[cnn (zgo f),cnn (zyE f)],zhj,false)
 else if f.kind=6 then(2,[cnn (zgo f),cnn (zyE f)],zhj,false)
 else if f.kind=7 then(2,[ngg (zgo f),cnn (zyE f)],zhj,false)
 else if f.kind=8 then(3,[],f,false)
 else if f.kind=9 then(4,[],f,false)
 else if f.kind=4 then
  if(zgo f).kind=4 then(1,[cnn (zgo (zgo f))],zhj,false)
  else if(zgo f).kind=5 then(2,[ngg (zgo (zgo f)),ngg (zyE (zgo f))],zhj,false)
  else if(zgo f).kind=6 then(1,[ngg (zgo (zgo f)),ngg (zyE (zgo f))],zhj,false)
  else if(zgo f).kind=7 then(1,[cnn (zgo (zgo f)),ngg (zyE (zgo f))],zhj,false)
  else if(zgo f).kind=8 then(4,[],zgo f,true)
  else if(zgo f).kind=9 then(3,[],zgo f,true)
  else(0,[],zhj,false)
 else(0,[],zhj,false)
structure brF (f:zaf):Prop where
 v:vok f
 ft:f.fit=true
 s:f.size≤800
theorem brF.sub {f g:zaf}(h:brF f)(hg:g∈f.subs):brF g:=by
 have hv:=h.v
 obtain⟨k,nm,ws,s⟩:=f
 rw[vok]at hv
 have hf:=h.ft
 rw[zaf.fit]at hf
 simp only[Bool.and_eq_true]at hf
 exact⟨(ze5 s).1 hv.2.2.2.2.2.2 g hg,zaf.fits_mem hf.2 hg,by have:=zaf.size_sub hg;have:=h.s;omega⟩
def zmh (c:List zbU)(w:Str):Str:=c.foldl (fun r l=>if r=l.fr then l.to else r) w
structure wfC (c:List zbU):Prop where
 d:∀i j (hi:i<c.length) (hj:j<c.length),j<i→c[j].fr≠c[i].fr
 t:∀i j (hi:i<c.length) (hj:j<c.length),j≤i→c[j].fr≠c[i].to
def zHC (c:List zbU)(f:zaf):List zbU:=
 if f.kind≠3 then c
 else if zmh c (f.words.getD 0 ⟨[]⟩)=zmh c (f.words.getD 1 ⟨[]⟩)then c
 else c++[⟨zmh c (f.words.getD 0 ⟨[]⟩),zmh c (f.words.getD 1 ⟨[]⟩)⟩]
def zEH (l:List zaf):List zbU:=l.foldl zHC []
def zCu (c:List zbU)(f g:zaf):Bool:=decide (f.kind=2)&&decide (g.kind=2)&&decide (f.name=g.name)&&decide (f.words.map (zmh c)=g.words.map (zmh c))
def zGV (c:List zbU)(f:zaf):Bool:=decide (f.kind=4)&&(decide ((zgo f).kind=1)||decide ((zgo f).kind=3)&&decide (zmh c ((zgo f).words.getD 0 ⟨[]⟩)=zmh c ((zgo f).words.getD 1 ⟨[]⟩)))
end Go.Abs
