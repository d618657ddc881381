import Derived.Test.YtkkffhphodngkaaDoorAT
import Derived.Test.YtkkffhphodngkaaDoorY15
import Derived.Test.YtkkffhphodngkaaDoorQ139
import Derived.Test.YtkkffhphodngkaaDoorY12
set_option maxRecDepth 100000
set_option maxHeartbeats 1000000
set_option linter.unusedSimpArgs false
namespace Go.Proofs.YtkkffhphodngkaaDoor
open Go Go.Abs Go.Proofs
section
variable {G:Nat→List FD}
def zxf (a:Str)(b:List Str):Abs.zaf:= .mk 2 a b []
def zGA (a:Int)(b c:Abs.zaf):Abs.zaf:= .mk a ⟨[]⟩ [] [b,c]
def zvP (a:zal):Bool:=decide ((a.consts.length:Int)≤300)&&decide ((a.rels.length:Int)≤300)
def I11:Tbl:=I10.add 8 (sp2 zxf fun _ _=>True)
attribute [go_sem] I11
theorem zEN:zan Tryd.prog G I11:=by
 refine zbq ok8 zEM fun a b _ _ _=>?_
 unfold zxf
 refine zah (N:=8) hm zEM 8000 (lst []) ok8 Tryd.func8 rfl rfl (by simp) (by kernel_rfl) ?_
 repeat'(first|refine And.intro ?_ ?_|exact True.intro|refine rq fun _=>?_|refine rf fun _=>?_|simp only[go_sem,zad,zac,zab,zaa,Tryd.f8])
 all_goals first|done|rfl|omega
def I12:Tbl:=I11.add 11 (sp1 zxb fun _=>True)
attribute [go_sem] I12
theorem zEO:zan Tryd.prog G I12:=by
 refine zb4 zB2 zEN fun a _ _=>?_
 unfold zxb
 refine zah (N:=6) hm zEN 11000 (lst []) zB2 Tryd.func11 rfl rfl (by simp) (by kernel_rfl) ?_
 repeat'(first|refine And.intro ?_ ?_|exact True.intro|refine rq fun _=>?_|refine rf fun _=>?_|simp only[go_sem,zad,zac,zab,zaa,Tryd.f11])
 all_goals first|done|rfl|omega
def I13:Tbl:=I12.add 12 (sp3 zGA fun _ _ _=>True)
attribute [go_sem] I13
theorem zCM:zan Tryd.prog G I13:=by
 refine zg3 zFL zEO fun a b c _ _ _ _=>?_
 unfold zGA
 refine zah (N:=12) hm zEO 12000 (lst []) zFL Tryd.func12 rfl rfl (by simp) (by kernel_rfl) ?_
 repeat'(first|refine And.intro ?_ ?_|exact True.intro|refine rq fun _=>?_|refine rf fun _=>?_|simp only[go_sem,zad,zac,zab,zaa,Tryd.f12])
 all_goals first|done|rfl|omega
def I14:Tbl:=I13.add 17 (sp1 zvP fun _=>True)
attribute [go_sem] I14
theorem zzm:zan Tryd.prog G I14:=by
 refine zb4 zD4 zCM fun a _ _=>?_
 unfold zvP
 by_cases h1:(a.consts.length:Int)≤300
 ·have h1':((a.consts.length:Int)≤300)=True:=eq_true h1
  refine zah (N:=13) hm zCM 17000 (lst []) zD4 Tryd.func17 rfl rfl (by simp) (by kernel_rfl) ?_
  repeat'(first|refine And.intro ?_ ?_|exact True.intro|refine rq fun _=>?_|refine rf fun _=>?_|simp only[go_sem,h1',zad,zac,zab,zaa,Tryd.f17])
  all_goals first|done|rfl|omega
 ·have h1':((a.consts.length:Int)≤300)=False:=eq_false h1
  refine zah (N:=13) hm zCM 17000 (lst []) zD4 Tryd.func17 rfl rfl (by simp) (by kernel_rfl) ?_
  repeat'(first|refine And.intro ?_ ?_|exact True.intro|refine rq fun _=>?_|refine rf fun _=>?_|simp only[go_sem,h1',zad,zac,zab,zaa,Tryd.f17])
  all_goals first|done|rfl|omega
end
def L1:Tbl:=Tbl.or I14 H1
attribute [go_sem] L1
theorem hL1:zan Tryd.prog GA L1:=zjH zzm hH1
end Go.Proofs.YtkkffhphodngkaaDoor
