import Derived.Test.YtalbdmcklgglbaaDoorAT
import Derived.Test.YtalbdmcklgglbaaDoorFacts
import Derived.Test.YtalbdmcklgglbaaDoorY9
set_option maxRecDepth 100000
set_option maxHeartbeats 1000000
set_option linter.unusedSimpArgs false
namespace Go.Proofs.YtalbdmcklgglbaaDoor
open Go Go.Abs Go.Proofs
def G0:Nat→List FD:=fun _=>[]
def Q1:Tbl:=zev.add 34 (sp2 (fun a b:List Str=>decide (a=b)) fun _ _=>True)
attribute [go_sem] Q1
theorem hQ1:zan Tryd.prog G0 Q1:=by
 refine zbr zE1 zmg fun a b _ ha hb=>?_
 have la:=zc1 ha
 have lb:=zc1 hb
 simp only[List.length_map,zaZ]at la lb
 refine zaj (N:=26) hm zmg 34000 (lst []) zE1 Tryd.func34 rfl rfl (by simp) (by kernel_rfl) ?_
 simp only[go_sem]
 refine zaB.d (fun h=>?_) (fun h=>?_)
 ·simp only[go_sem]
  refine zar hm zmg 34000 (lst []) (ι:=zd8 a.length fun i=>a.take i=b.take i) ⟨fun i=>⟨frL [(0,.fz (enc a)),(1,.fz (enc b)),(12,.fz (.i .i64 a.length)),(13,.fz (.i .i64 i.i))],hpL [],0⟩,fun i=>a.length-i.i⟩ ⟨0,by simp,by simp⟩ (by kernel_rfl) ?_ ?_
  ·refine zah ?_ ?_ ?_<;>simp only[go_sem]
  ·intro i
   have hi:=i.hi
   simp only[go_sem]
   refine zaB.d (fun h2=>?_) (fun h2=>?_)
   ·have h3:i.i<b.length:=by omega
    simp only[go_sem,h2,h3,zaa]
    refine zaB.d (fun h4=>?_) (fun h4=>?_)
    ·simp only[go_sem]
     refine zaH.i (by omega) fun _=>?_
     simp only[go_sem]
     refine⟨⟨i.i+1,by omega,zlX h2 h3 i.hp h4⟩,by simp only;omega,?_⟩
     refine zah ?_ ?_ ?_<;>simp only[go_sem]
    ·simp only[go_sem,Tryd.f34,zud h2 h3 h4]
   ·simp only[go_sem,Tryd.f34,zlW h h2 i.hp]
 ·have hne:a≠b:=fun e=>h (e▸rfl)
  simp only[go_sem,Tryd.f34,hne]
def Q2:Tbl:=Q1.add 25 (sp2 (fun(l:List Str) (s:Str)=>decide (s∈l)) fun _ _=>True)
attribute [go_sem] Q2
theorem hQ2:zan Tryd.prog G0 Q2:=by
 refine zbr zEU hQ1 fun l s _ ha hb=>?_
 have la:=zc1 ha
 simp only[List.length_map,zaZ]at la
 refine zaj (N:=17) hm hQ1 25000 (lst []) zEU Tryd.func25 rfl rfl (by simp) (by kernel_rfl) ?_
 simp only[go_sem]
 refine zar hm hQ1 25000 (lst []) (ι:=zd8 l.length fun i=>s∉l.take i) ⟨fun i=>⟨frL [(0,.fz (enc l)),(1,.fz (enc s)),(7,.fz (enc l)),(8,.fz (.i .i64 l.length)),(9,.fz (.i .i64 i.i))],hpL [],0⟩,fun i=>l.length-i.i⟩ ⟨0,by simp,by simp⟩ (by kernel_rfl) ?_ ?_
 ·refine zah ?_ ?_ ?_<;>simp only[go_sem]
 ·intro i
  have hi:=i.hi
  simp only[go_sem]
  refine zaB.d (fun h2=>?_) (fun h2=>?_)
  ·simp only[go_sem,h2,zaa]
   refine zaB.d (fun h4=>?_) (fun h4=>?_)
   ·have hin:s∈l:=h4▸List.getElem_mem h2
    simp only[go_sem,Tryd.f25,hin]
   ·simp only[go_sem]
    refine zaH.i (by omega) fun _=>?_
    simp only[go_sem]
    refine⟨⟨i.i+1,by omega,ziN h2 i.hp h4⟩,by simp only;omega,?_⟩
    refine zah ?_ ?_ ?_<;>simp only[go_sem]
  ·simp only[go_sem,Tryd.f25,zlw h2 i.hp]
def Q3:Tbl:=Q2.add 61 (sp2 idx fun _ _=>True)
attribute [go_sem] Q3
theorem hQ3:zan Tryd.prog G0 Q3:=by
 refine zbr zFh hQ2 fun l s _ ha hb=>?_
 have la:=zc1 ha
 simp only[List.length_map,zaZ]at la
 refine zaj (N:=19) hm hQ2 61000 (lst []) zFh Tryd.func61 rfl rfl (by simp) (by kernel_rfl) ?_
 simp only[go_sem]
 refine zar hm hQ2 61000 (lst []) (ι:=zd8 l.length fun i=>s∉l.take i) ⟨fun i=>⟨frL [(0,.fz (enc l)),(1,.fz (enc s)),(7,.fz (.i .i64 l.length)),(8,.fz (.i .i64 i.i))],hpL [],0⟩,fun i=>l.length-i.i⟩ ⟨0,by simp,by simp⟩ (by kernel_rfl) ?_ ?_
 ·refine zah ?_ ?_ ?_<;>simp only[go_sem]
 ·intro i
  have hi:=i.hi
  simp only[go_sem]
  refine zaB.d (fun h2=>?_) (fun h2=>?_)
  ·simp only[go_sem,h2,zaa]
   refine zaB.d (fun h4=>?_) (fun h4=>?_)
   ·have hin:s∈l:=h4▸List.getElem_mem h2
    have e:idx l s=i.i:=by
     unfold idx
     rw[if_pos hin,zq3 (l:=l) h2 i.hp h4.symm]
    simp only[go_sem,Tryd.f61,e]
   ·simp only[go_sem]
    refine zaH.i (by omega) fun _=>?_
    simp only[go_sem]
    refine⟨⟨i.i+1,by omega,ziN h2 i.hp fun e=>h4 e.symm⟩,by simp only;omega,?_⟩
    refine zah ?_ ?_ ?_<;>simp only[go_sem]
  ·have e:idx l s= -1:=by
    unfold idx
    rw[if_neg (zlw h2 i.hp)]
   simp only[go_sem,Tryd.f61,e]
def Q4:Tbl:=Q3.add 30 (sp2 (fun(l:List Str) (s:Str)=>decide (s∈l)) fun _ _=>True)
attribute [go_sem] Q4
theorem hQ4:zan Tryd.prog G0 Q4:=by
 refine zbr zEX hQ3 fun l s _ ha hb=>?_
 refine zaj (N:=9) hm hQ3 30000 (lst []) zEX Tryd.func30 rfl rfl (by simp) (by kernel_rfl) ?_
 have e:decide (0≤idx l s)=decide (s∈l):=by
  unfold idx
  split<;>rename_i h<;>simp[h]
 simp only[go_sem,Q3,Tryd.f30,e]
def Q5:Tbl:=Q4.add 29 (sp1 zai fun _=>True)
attribute [go_sem] Q5
theorem hQ5:zan Tryd.prog G0 Q5:=by
  refine zbY zEW hQ4 fun s _ hs=>?_
  have ls:=zDs hs
  simp only[zaZ]at ls
  refine zaj (N:=55) hm hQ4 29000 (lst []) zEW Tryd.func29 rfl rfl (by simp) (by kernel_rfl) ?_
  simp only[go_sem]
  repeat'(first|refine zaB.d (fun _=>?_) (fun _=>?_)|refine rq fun _=>?_|simp only[go_sem,Tryd.f29, *])
  · rw[zcv (by unfold zf4;omega)]
  · rw[zcv (by unfold zf4;omega)]
  · rw[zcv (by unfold zf4;omega)]
  · rw[zcv (by unfold zf4;omega)]
  · refine zar hm hQ4 29000 (lst []) (ι:=zd8 s.l.length fun i=>∀j,j<i→okc (s.l.getD j 0)) ⟨fun i=>⟨frL [(0,.fz (enc s)),(24,.fz (.i .i64 s.l.length)),(25,.fz (.i .i64 i.i))],hpL [],0⟩,fun i=>s.l.length-i.i⟩ ⟨0,by simp,by simp⟩ (by kernel_rfl) ?_ ?_
    · refine zah ?_ ?_ ?_<;>simp only[go_sem]
    · intro i
      have hi:=i.hi
      have hp:=i.hp
      simp only[go_sem]
      refine zaB.d (fun h2=>?_) (fun h2=>?_)
      · repeat'(first|refine zaB.d (fun _=>?_) (fun _=>?_)|refine rq fun _=>?_|simp only[go_sem,Tryd.f29, *])
        all_goals first
          |rw[znR h2 (by unfold okc zf4;omega)]
          |(refine⟨⟨i.i+1,by omega,zkq hp (by unfold okc zf4;omega)⟩,by simp only;omega,?_⟩
            refine zah ?_ ?_ ?_<;>simp only[go_sem])
      · simp only[go_sem,Tryd.f29]
        rw[zhB (by omega) (by omega) (by unfold zf4;omega) fun j hj=>hp j (by omega)]
def Q6:Tbl:=Q5.add 51 (sp1 zai fun _=>True)
attribute [go_sem] Q6
theorem hQ6:zan Tryd.prog G0 Q6:=by
  refine zbY zE9 hQ5 fun s _ hs=>?_
  have ls:=zDs hs
  simp only[zaZ]at ls
  refine zaj (N:=62) hm hQ5 51000 (lst []) zE9 Tryd.func51 rfl rfl (by simp) (by kernel_rfl) ?_
  simp only[go_sem]
  repeat'(first|refine zaB.d (fun _=>?_) (fun _=>?_)|refine rq fun _=>?_|simp only[go_sem,Tryd.f51, *])
  · rw[zcv (by unfold zf4;omega)]
  · rw[zcv (by unfold zf4;omega)]
  · refine zar hm hQ5 51000 (lst []) (ι:=zd8 s.l.length fun i=>(∀j,j<i→okc (s.l.getD j 0))∧(0<i→zf4 (s.l.getD 0 0))) ⟨fun i=>⟨frL [(0,.fz (enc s)),(3,.fz (.i .i64 i.i))],hpL [],0⟩,fun i=>s.l.length-i.i⟩ ⟨0,by simp,by simp⟩ (by kernel_rfl) ?_ ?_
    · refine zah ?_ ?_ ?_<;>simp only[go_sem]
    · intro i
      have hi:=i.hi
      have hp:=i.hp.1
      have hz:=i.hp.2
      simp only[go_sem]
      refine zaB.d (fun h2=>?_) (fun h2=>?_)
      · repeat'(first|refine zaB.d (fun _=>?_) (fun _=>?_)|refine rq fun _=>?_|simp only[go_sem,Tryd.f51, *])
        all_goals first
          |rw[zrp (s:=s) (j:=i.i) (by omega) (by unfold zf4;omega)]
          |rw[znR h2 (by unfold okc zf4;omega)]
          |(refine⟨⟨i.i+1,by omega,zkq hp (by unfold okc zf4;omega),ztM hz (by unfold zf4;omega)⟩,by simp only;omega,?_⟩
            refine zah ?_ ?_ ?_<;>simp only[go_sem])
      · simp only[go_sem,Tryd.f51]
        rw[zhB (by omega) (by omega) (hz (by omega)) fun j hj=>hp j (by omega)]
def Q7:Tbl:=Q6.add 47 (sp1 (fun l:List Str=>l) fun l=>l.length≤4194304)
attribute [go_sem] Q7
theorem hQ7:zan Tryd.prog G0 Q7:=by
 refine zbY zAW hQ6 fun l hl hw=>?_
 refine zaj (N:=8) hm hQ6 47000 (lst []) zAW Tryd.func47 rfl rfl (by simp) (by kernel_rfl) ?_
 simp only[go_sem]
 refine zpM.i fun b hb=>?_
 cases b
 ·simp only[go_sem]
  refine zaH.i (zqV (by omega) (by decide)) fun _=>?_
  simp only[go_sem,Tryd.f47]
 ·have:l=[]:=List.eq_nil_of_length_eq_zero (hb rfl)
  subst this
  simp only[go_sem,Tryd.f47]
end Go.Proofs.YtalbdmcklgglbaaDoor
