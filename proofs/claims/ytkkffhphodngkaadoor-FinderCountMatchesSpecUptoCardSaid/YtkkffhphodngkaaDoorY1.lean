/- several texts of this proof in one; no conditions -/
import Derived.Test.YtkkffhphodngkaaDoorAT
import Derived.Test.YtkkffhphodngkaaDoorQ24
import Derived.Test.YtkkffhphodngkaaDoorAbs45
set_option linter.unusedSimpArgs false
namespace Go.Proofs.YtkkffhphodngkaaDoor
open Go Go.Abs Go.Proofs
def zf8 (l:List Str):List Str:=(zgL (l.map (·.l))).map Str.mk
def zfh (l:List Str):List Str:=(zda (l.map (·.l))).map Str.mk
theorem zkn (l:List (List UInt8)):(l.map Str.mk).map (·.l)=l:=by rw[List.map_map,show((·.l)∘Str.mk:List UInt8→List UInt8)=id from rfl,List.map_id]
theorem zpf (f:Abs.zaf):zbH f=zfh (zf8 (cst f [])):=by
 unfold zbH zfh zf8;rw[zkn]
theorem zdW (l:List Str):zae (l.map enc)=zbx (l.map (·.l)):=by rw[zaY,zbx,List.map_map];rfl
theorem zeU (l:List (List UInt8)):zbx l=zae ((l.map Str.mk).map enc):=by rw[zdW,zkn]
theorem zkh {H:zau}{id:Abs.Id}{o:Option O}:zaG H id o=hpX [(id,o)] H:=rfl
theorem zuY {H:zau}{id:Abs.Id}{l:List Str}{bx vt:Bool}{n:Nat}{R:D→zau→Nat→Prop}(ho:H id=some ⟨zae (l.map enc),bx,vt⟩)
  (hR:R (.tup []) (hpX [(id,some ⟨zae ((zf8 l).map enc),bx,vt⟩)] H) n):zay Tryd.prog GA 59 [.arr id 1 0 l.length] H n R:=by
 rw[zdW]at ho
 have h:=zi3 (G:=GA) (n:=n) zGb Tryd.slices_Sort_string Tryd.slices_Sort_string_none ho
 rw[List.length_map]at h
 refine zaI h ?_
 rintro d H' n' ⟨rfl,rfl,rfl⟩
 rw[zkh,zeU]
 exact hR
theorem ztN {H:zau}{id:Abs.Id}{l:List Str}{bx vt:Bool}{n:Nat}{R:D→zau→Nat→Prop}(ho:H id=some ⟨zae (l.map enc),bx,vt⟩)
  (hR:R (.arr id 1 0 (zfh l).length) (hpX [(id,some ⟨zae ((zfh l).map enc),bx,vt⟩)] H) n):zay Tryd.prog GA 60 [.arr id 1 0 l.length] H n R:=by
 rw[zdW]at ho
 have h:=zfz (G:=GA) (n:=n) zGc Tryd.slices_Compact_string Tryd.slices_Compact_string_empty ho
 rw[List.length_map]at h
 refine zaI h ?_
 rintro d H' n' ⟨rfl,rfl,rfl⟩
 rw[zkh,zeU,show(zda (l.map (·.l))).length=(zfh l).length by unfold zfh;rw[List.length_map]]
 exact hR
theorem zf9 (l:List Str):(zf8 l).length=l.length:=by unfold zf8;rw[List.length_map,zga,List.length_map]
set_option maxRecDepth 100000 in
set_option maxHeartbeats 1000000 in
theorem f49 {f:Abs.zaf}(hw:(enc f).Wf)(hl:(cst f []).length≤1000000)(hs:f.size≤1000000):zay Tryd.prog GA 49 [.fz (enc f)] (hpL []) 0
  (fun d H n=>∃g,g<n∧d= .arr (76024,g) 1 0 (zbH f).length∧H (76024,g)=some ⟨zae ((zbH f).map enc),false,(cst f []).isEmpty⟩):=by
 obtain⟨Q,hQ⟩:∃Q:D→zau→Nat→Prop,Q=(fun d H n=>∃g,g<n∧d= .arr (76024,g) 1 0 (zbH f).length∧H (76024,g)=some ⟨zae ((zbH f).map enc),false,(cst f []).isEmpty⟩):=⟨_,rfl⟩
 rw[←hQ]
 refine zah (N:=13) hm hR1 49000 (lst []) zD9 Tryd.func49 rfl rfl (by simp) (by kernel_rfl) ?_
 have h:=f76 f.size f [] [] 3 4 (fun _=>none) (Nat.le_refl _) hw (by omega) (by omega) (by simpa using hl) (by simpa using hs) (fun id o ho=>by cases ho)
 rw[zaH]at h
 repeat'(first|refine rq fun _=>?_|simp only[go_sem,Tryd.f49])
 refine zas.i (zci rfl (zqY (args':=[.fz (.agg [.i .i64 f.kind,.s f.name.l,.sl (f.words.map enc),.sl (f.subs.map enc)]),.fz (enc ([]:List Str)),.ptr (49003,1) 0,.ptr (49004,2) 0])
  (hl:=HHk [] 3) (n':=4) [] [(76024,3)] [] rfl ?_ ?_ ?_ ?_ ?_ ?_))
 case _=>omega
 case _=>simp only[go_sem]
 case _=>simp only[go_sem,HHk];first|done|rfl
 case _=>simp only[go_sem,HHk];first|done|rfl
 case _=>simp only[go_sem];first|done|rfl
 rw[show hpL (HHk [] 3)=hpX (HHk [] 3) (fun _=>none)from rfl]
 refine zaI h ?_
 rintro d' H' n' ⟨rfl,e1,⟨g,hg,e2⟩,_⟩
 rw[List.nil_append]at e2
 obtain⟨C,hC⟩:∃C,C=cst f []:=⟨_,rfl⟩
 rw[←hC]at e2
 rw[zpf,←hC]at hQ
 simp only[go_sem,HHk]at e2
 obtain⟨b1,b2,b3⟩:=e2
 rw[show H'=hpX [] H' from rfl]
 repeat'(first|refine rq fun _=>?_|simp only[go_sem,b1,b2,b3,Tryd.f49])
 refine zas.i (zuY (l:=C) (bx:=false) (vt:=C.isEmpty) (by simp only[go_sem,b3]) ?_)
 rw[←zf9 C]at b1
 repeat'(first|refine rq fun _=>?_|simp only[go_sem,b1,b2,b3,Tryd.f49])
 refine zas.i (ztN (l:=zf8 C) (bx:=false) (vt:=C.isEmpty) (by simp only[go_sem]) ?_)
 repeat'(first|refine rq fun _=>?_|simp only[go_sem,b1,b2,b3,Tryd.f49])
 rw[hQ]
 exact⟨g,hg,by simp only[go_sem],by simp only[go_sem]⟩
end Go.Proofs.YtkkffhphodngkaaDoor
namespace Go.Proofs.YtkkffhphodngkaaDoor
open Go Go.Abs Go.Proofs
structure zGL (used:List Str)(k:Nat) where
 j:Nat
 h1:k≤j
 h2:j≤k+used.length
 h3:ze9 used k=ze9 used j
end Go.Proofs.YtkkffhphodngkaaDoor
namespace Go.Proofs.YtkkffhphodngkaaDoor
open Go Go.Abs Go.Proofs
theorem zcW {G:Nat→List FD}{N:Nat}{l:List (Nat×D)}{H:zau}{n:Nat}{id:Abs.Id}{t:Nat}{ys:List FD}{b:Bool}(ho:H id=some ⟨ys.map .fz,b,false⟩)(hs:frL l t= .ptr id 0):
  zfv G N ⟨frL l,H,n⟩ ⟨frL ((t,.rp ys)::l),zaG H id none,n⟩:=zmP (st:=⟨frL l,H,n⟩) ho hs
structure zGI (env:List zbU)(w:Str) where
 p:Nat
 hp:p≤env.length
 h:lkp env w=ziX env w p
structure zGK (len n0 lo:Nat) where
 i:Nat
 g:Nat
 m:Nat
 hi:i≤len
 hg:g<m
 hm:n0≤m
 hl:lo≤g
structure zGJ (n len:Nat)(p:Nat→Nat→Prop) where
 i:Nat
 g:Nat
 k:Nat
 m:Nat
 hi:i≤len
 hg:g<m
 hm:n≤m
 hp:p i k
theorem zju:∀{fs:List Abs.zaf} {j:Nat} (h:j<fs.length),zaf.sizes (fs.take j)+fs[j].size≤zaf.sizes fs
 |f::fs,0,h=>by simp only[List.take_zero,zaf.sizes,List.getElem_cons_zero];omega
 |f::fs,j+1,h=>by
  have:=zju (fs:=fs) (j:=j) (by simpa using h)
  simp only[List.take_succ_cons,zaf.sizes,List.getElem_cons_succ];omega
end Go.Proofs.YtkkffhphodngkaaDoor
