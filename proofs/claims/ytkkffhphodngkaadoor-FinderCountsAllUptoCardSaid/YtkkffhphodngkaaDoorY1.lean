/- several texts of this proof in one; no conditions -/
import Derived.Test.YtkkffhphodngkaaDoorAT
import Derived.Test.YtkkffhphodngkaaDoorQ24
import Derived.Test.YtkkffhphodngkaaDoorAbs45
set_option linter.unusedSimpArgs false
namespace Go.Proofs.YtkkffhphodngkaaDoor
open Go Go.Abs Go.Proofs
def zfC (l:List Str):List Str:=(zf9 (l.map (·.l))).map Str.mk
def zeV (l:List Str):List Str:=(zcZ (l.map (·.l))).map Str.mk
theorem zjI (l:List (List UInt8)):(l.map Str.mk).map (·.l)=l:=by rw[List.map_map,show((·.l)∘Str.mk:List UInt8→List UInt8)=id from rfl,List.map_id]
theorem zol (f:Abs.zac):zbv f=zeV (zfC (cst f [])):=by
 unfold zbv zeV zfC;rw[zjI]
theorem zdC (l:List Str):zad (l.map enc)=zbm (l.map (·.l)):=by rw[zaQ,zbm,List.map_map];rfl
theorem zey (l:List (List UInt8)):zbm l=zad ((l.map Str.mk).map enc):=by rw[zdC,zjI]
theorem zjD {H:zav}{id:Abs.Id}{o:Option O}:zaC H id o=hpX [(id,o)] H:=rfl
theorem ztR {H:zav}{id:Abs.Id}{l:List Str}{bx vt:Bool}{n:Nat}{R:D→zav→Nat→Prop}(ho:H id=some ⟨zad (l.map enc),bx,vt⟩)
  (hR:R (.tup []) (hpX [(id,some ⟨zad ((zfC l).map enc),bx,vt⟩)] H) n):zaw Tryd.prog GA 59 [.arr id 1 0 l.length] H n R:=by
 rw[zdC]at ho
 have h:=zip (G:=GA) (n:=n) zEN Tryd.slices_Sort_string Tryd.slices_Sort_string_none ho
 rw[List.length_map]at h
 refine zaD h ?_
 rintro d H' n' ⟨rfl,rfl,rfl⟩
 rw[zjD,zey]
 exact hR
theorem zsJ {H:zav}{id:Abs.Id}{l:List Str}{bx vt:Bool}{n:Nat}{R:D→zav→Nat→Prop}(ho:H id=some ⟨zad (l.map enc),bx,vt⟩)
  (hR:R (.arr id 1 0 (zeV l).length) (hpX [(id,some ⟨zad ((zeV l).map enc),bx,vt⟩)] H) n):zaw Tryd.prog GA 60 [.arr id 1 0 l.length] H n R:=by
 rw[zdC]at ho
 have h:=ze8 (G:=GA) (n:=n) zEO Tryd.slices_Compact_string Tryd.slices_Compact_string_empty ho
 rw[List.length_map]at h
 refine zaD h ?_
 rintro d H' n' ⟨rfl,rfl,rfl⟩
 rw[zjD,zey,show(zcZ (l.map (·.l))).length=(zeV l).length by unfold zeV;rw[List.length_map]]
 exact hR
theorem zfD (l:List Str):(zfC l).length=l.length:=by unfold zfC;rw[List.length_map,zfE,List.length_map]
set_option maxRecDepth 100000 in
set_option maxHeartbeats 1000000 in
theorem f49 {f:Abs.zac}(hw:(enc f).Wf)(hl:(cst f []).length≤1000000)(hs:f.size≤1000000):zaw Tryd.prog GA 49 [.fz (enc f)] (hpL []) 0
  (fun d H n=>∃g,g<n∧d= .arr (76024,g) 1 0 (zbv f).length∧H (76024,g)=some ⟨zad ((zbv f).map enc),false,(cst f []).isEmpty⟩):=by
 obtain⟨Q,hQ⟩:∃Q:D→zav→Nat→Prop,Q=(fun d H n=>∃g,g<n∧d= .arr (76024,g) 1 0 (zbv f).length∧H (76024,g)=some ⟨zad ((zbv f).map enc),false,(cst f []).isEmpty⟩):=⟨_,rfl⟩
 rw[←hQ]
 refine zah (N:=13) hm hR1 49000 (lst []) zCP Tryd.func49 rfl rfl (by simp) (by kernel_rfl) ?_
 have h:=f76 f.size f [] [] 3 4 (fun _=>none) (Nat.le_refl _) hw (by omega) (by omega) (by simpa using hl) (by simpa using hs) (fun id o ho=>by cases ho)
 rw[zaG]at h
 repeat'(first|refine rq fun _=>?_|simp only[go_sem,Tryd.f49])
 refine zas.i (zb9 rfl (zp4 (args':=[.fz (.agg [.i .i64 f.kind,.s f.name.l,.sl (f.words.map enc),.sl (f.subs.map enc)]),.fz (enc ([]:List Str)),.ptr (49003,1) 0,.ptr (49004,2) 0])
  (hl:=HHk [] 3) (n':=4) [] [(76024,3)] [] rfl ?_ ?_ ?_ ?_ ?_ ?_))
 case _=>omega
 case _=>simp only[go_sem]
 case _=>simp only[go_sem,HHk];first|done|rfl
 case _=>simp only[go_sem,HHk];first|done|rfl
 case _=>simp only[go_sem];first|done|rfl
 rw[show hpL (HHk [] 3)=hpX (HHk [] 3) (fun _=>none)from rfl]
 refine zaD h ?_
 rintro d' H' n' ⟨rfl,e1,⟨g,hg,e2⟩,_⟩
 rw[List.nil_append]at e2
 obtain⟨C,hC⟩:∃C,C=cst f []:=⟨_,rfl⟩
 rw[←hC]at e2
 rw[zol,←hC]at hQ
 simp only[go_sem,HHk]at e2
 obtain⟨b1,b2,b3⟩:=e2
 rw[show H'=hpX [] H' from rfl]
 repeat'(first|refine rq fun _=>?_|simp only[go_sem,b1,b2,b3,Tryd.f49])
 refine zas.i (ztR (l:=C) (bx:=false) (vt:=C.isEmpty) (by simp only[go_sem,b3]) ?_)
 rw[←zfD C]at b1
 repeat'(first|refine rq fun _=>?_|simp only[go_sem,b1,b2,b3,Tryd.f49])
 refine zas.i (zsJ (l:=zfC C) (bx:=false) (vt:=C.isEmpty) (by simp only[go_sem]) ?_)
 repeat'(first|refine rq fun _=>?_|simp only[go_sem,b1,b2,b3,Tryd.f49])
 rw[hQ]
 exact⟨g,hg,by simp only[go_sem],by simp only[go_sem]⟩
end Go.Proofs.YtkkffhphodngkaaDoor
namespace Go.Proofs.YtkkffhphodngkaaDoor
open Go Go.Abs Go.Proofs
structure zFn (used:List Str)(k:Nat) where
 j:Nat
 h1:k≤j
 h2:j≤k+used.length
 h3:zeM used k=zeM used j
end Go.Proofs.YtkkffhphodngkaaDoor
namespace Go.Proofs.YtkkffhphodngkaaDoor
open Go Go.Abs Go.Proofs
theorem zcL {G:Nat→List FD}{N:Nat}{l:List (Nat×D)}{H:zav}{n:Nat}{id:Abs.Id}{t:Nat}{ys:List FD}{b:Bool}(ho:H id=some ⟨ys.map .fz,b,false⟩)(hs:frL l t= .ptr id 0):
  ze9 G N ⟨frL l,H,n⟩ ⟨frL ((t,.rp ys)::l),zaC H id none,n⟩:=zp6 (st:=⟨frL l,H,n⟩) ho hs
structure zFk (env:List zbI)(w:Str) where
 p:Nat
 hp:p≤env.length
 h:lkp env w=zij env w p
structure zFm (len n0 lo:Nat) where
 i:Nat
 g:Nat
 m:Nat
 hi:i≤len
 hg:g<m
 hm:n0≤m
 hl:lo≤g
structure zFl (n len:Nat)(p:Nat→Nat→Prop) where
 i:Nat
 g:Nat
 k:Nat
 m:Nat
 hi:i≤len
 hg:g<m
 hm:n≤m
 hp:p i k
theorem ziS:∀{fs:List Abs.zac} {j:Nat} (h:j<fs.length),zac.sizes (fs.take j)+fs[j].size≤zac.sizes fs
 |f::fs,0,h=>by simp only[List.take_zero,zac.sizes,List.getElem_cons_zero];omega
 |f::fs,j+1,h=>by
  have:=ziS (fs:=fs) (j:=j) (by simpa using h)
  simp only[List.take_succ_cons,zac.sizes,List.getElem_cons_succ];omega
end Go.Proofs.YtkkffhphodngkaaDoor
