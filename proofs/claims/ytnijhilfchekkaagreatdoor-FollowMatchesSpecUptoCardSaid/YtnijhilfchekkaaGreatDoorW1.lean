import Derived.KernelRfl
import Derived.Test.YtnijhilfchekkaaGreatDoorAT
import Derived.Test.YtnijhilfchekkaaGreatDoorC1
import Derived.Test.YtnijhilfchekkaaGreatDoorSH
set_option linter.unusedSimpArgs false
set_option maxRecDepth 100000
set_option maxHeartbeats 1000000
namespace Go.Proofs.YtnijhilfchekkaaGreatDoor
open Go Go.Abs Go.Proofs
theorem hm:Tryz.prog.follows .mixedOrders=true:=ah
@[go_sem] theorem ti3:cN Tryz.prog 3=some ⟨1,8,[.fz (.i .i64 0)],(.int .i64),false,false,[]⟩:=ah
@[go_sem] theorem ti4:cN Tryz.prog 4=some ⟨1,1,[.fz (.b false)],.bool,false,false,[]⟩:=ah
@[go_sem] theorem ti5:cN Tryz.prog 5=some ⟨1,1,[.fz (.i .u8 0)],(.int .u8),false,false,[]⟩:=ah
@[go_sem] theorem ti9:cN Tryz.prog 9=some ⟨1,16,[.fz (.s [])],.str,false,false,[]⟩:=ah
@[go_sem] theorem zVh:cN Tryz.prog 22=some ⟨1,24,[.full []],(.slice 25),false,false,[]⟩:=ah
@[go_sem] theorem zVi:cN Tryz.prog 23=some ⟨1,24,[.full []],(.slice 9),false,false,[]⟩:=ah
@[go_sem] theorem zVk:cN Tryz.prog 25=some ⟨4,72,[.fz (.i .i64 0),.fz (.s []),.full [],.full []],(.struct [(0,3),(1,9),(2,23),(3,22)]),true,false,[(.int .i64),.str,(.slice 9),(.slice 25)]⟩:=ah
@[go_sem] theorem zVl:cN Tryz.prog 26=some ⟨1,24,[.full []],(.slice 28),false,false,[]⟩:=ah
@[go_sem] theorem zVn:cN Tryz.prog 28=some ⟨5,64,[.fz (.i .i64 0),.fz (.i .i64 0),.fz (.i .i64 0),.fz (.s []),.full []],(.struct [(0,3),(1,3),(2,3),(3,9),(4,26)]),true,false,[(.int .i64),(.int .i64),(.int .i64),.str,(.slice 28)]⟩:=ah
@[go_sem] theorem zVo:cN Tryz.prog 29=some ⟨1,24,[.full []],(.slice 59),false,false,[]⟩:=ah
@[go_sem] theorem zVp:cN Tryz.prog 30=some ⟨1,24,[.full []],(.slice 62),false,false,[]⟩:=ah
@[go_sem] theorem zVr:cN Tryz.prog 32=some ⟨3,56,[.fz (.i .i64 0),.full [],.full []],(.struct [(0,3),(1,29),(2,30)]),true,false,[(.int .i64),(.slice 59),(.slice 62)]⟩:=ah
@[go_sem] theorem zVt:cN Tryz.prog 34=some ⟨9,128,[.fz (.i .i64 0),.fz (.i .i64 0),.fz (.i .i64 0),.fz (.i .i64 0),.fz (.s []),.full [],.fz (.i .i64 0),.full [],.full []],(.struct [(0,3),(1,28),(6,32)]),true,false,[(.int .i64),(.struct [(0,3),(1,3),(2,3),(3,9),(4,26)]),(.struct [(0,3),(1,29),(2,30)])]⟩:=ah
@[go_sem] theorem VA:cN Tryz.prog 36=some ⟨2,16,[.fz (.i .i64 0),.fz (.i .i64 0)],(.struct [(0,3),(1,3)]),true,true,[(.int .i64),(.int .i64)]⟩:=ah
@[go_sem] theorem zVN:cN Tryz.prog 59=some ⟨2,24,[.fz (.s []),.fz (.i .i64 0)],(.struct [(0,9),(1,3)]),true,true,[.str,(.int .i64)]⟩:=ah
@[go_sem] theorem zVO:cN Tryz.prog 60=some ⟨1,24,[.full []],(.slice 64),false,false,[]⟩:=ah
@[go_sem] theorem zVQ:cN Tryz.prog 62=some ⟨3,48,[.fz (.s []),.fz (.i .i64 0),.full []],(.struct [(0,9),(1,3),(2,60)]),true,false,[.str,(.int .i64),(.slice 64)]⟩:=ah
@[go_sem] theorem zVS:cN Tryz.prog 64=some ⟨1,24,[.full []],(.slice 3),false,false,[]⟩:=ah
@[go_sem] theorem zV6:cN Tryz.prog 81=some ⟨2,16,[.fz (.i .i64 0),.fz (.i .i64 0)],(.struct [(0,3),(1,3)]),true,true,[(.int .i64),(.int .i64)]⟩:=ah
@[go_sem] theorem zV8:cN Tryz.prog 84=some ⟨1,24,[.full []],(.slice 4),false,false,[]⟩:=ah
@[go_sem] theorem zV9:cN Tryz.prog 85=some ⟨1,24,[.full []],(.slice 23),false,false,[]⟩:=ah
@[go_sem] theorem zWb:cN Tryz.prog 87=some ⟨4,80,[.full [],.full [],.full [],.fz (.i .i64 0)],(.struct [(0,22),(1,84),(2,85),(3,3)]),true,false,[(.slice 25),(.slice 4),(.slice 23),(.int .i64)]⟩:=ah
@[go_sem] theorem zWh:cN Tryz.prog 94=some ⟨1,24,[.full []],(.slice 32),false,false,[]⟩:=ah
@[go_sem] theorem zSM:cN Tryz.prog 118=some ⟨5,80,[.fz (.i .i64 0),.fz (.s []),.full [],.full [],.fz (.i .i64 0)],(.struct [(0,25),(4,3)]),true,false,[(.struct [(0,3),(1,9),(2,23),(3,22)]),(.int .i64)]⟩:=ah
@[go_sem] theorem zSN:cN Tryz.prog 119=some ⟨1,24,[.full []],(.slice 118),false,false,[]⟩:=ah
@[go_sem] theorem zSP:cN Tryz.prog 121=some ⟨1,24,[.full []],(.slice 124),false,false,[]⟩:=ah
@[go_sem] theorem zSS:cN Tryz.prog 124=some ⟨2,24,[.fz (.i .i64 0),.fz (.s [])],(.struct [(0,3),(1,9)]),true,true,[(.int .i64),.str]⟩:=ah
@[go_sem] theorem zST:cN Tryz.prog 125=some ⟨1,24,[.full []],(.slice 128),false,false,[]⟩:=ah
@[go_sem] theorem zSW:cN Tryz.prog 128=some ⟨2,24,[.fz (.s []),.fz (.i .i64 0)],(.struct [(0,9),(1,3)]),true,true,[.str,(.int .i64)]⟩:=ah
@[go_sem] theorem zSZ:cN Tryz.prog 131=some ⟨1,24,[.full []],(.slice 5),false,false,[]⟩:=ah
@[go_sem] theorem zS2:cN Tryz.prog 134=some ⟨1,24,[.full []],(.slice 160),false,false,[]⟩:=ah
@[go_sem] theorem zS8:cN Tryz.prog 140=some ⟨1,8,[.fz (.nilf)],.func,false,false,[]⟩:=ah
@[go_sem] theorem zTf:cN Tryz.prog 147=some ⟨1,8,[.fz (.i .u64 0)],(.int .u64),false,false,[]⟩:=ah
@[go_sem] theorem zTj:cN Tryz.prog 151=some ⟨1,8,[.fz (.nilf)],.func,false,false,[]⟩:=ah
@[go_sem] theorem zTl:cN Tryz.prog 153=some ⟨1,24,[.full []],(.slice 155),false,false,[]⟩:=ah
@[go_sem] theorem zTn:cN Tryz.prog 155=some ⟨2,32,[.fz (.s []),.fz (.s [])],(.struct [(0,9),(1,9)]),true,true,[.str,.str]⟩:=ah
@[go_sem] theorem zTs:cN Tryz.prog 160=some ⟨2,32,[.fz (.s []),.fz (.s [])],(.struct [(0,9),(1,9)]),true,true,[.str,.str]⟩:=ah
@[go_sem] theorem zTv:cN Tryz.prog 163=some ⟨1,8,[.fz (.nilf)],.func,false,false,[]⟩:=ah
@[go_sem] theorem zTB:cN Tryz.prog 169=some ⟨1,24,[.full []],(.slice 170),false,false,[]⟩:=ah
@[go_sem] theorem zTC:cN Tryz.prog 170=some ⟨2,24,[.fz (.s []),.fz (.i .i64 0)],(.struct [(0,9),(1,3)]),true,true,[.str,(.int .i64)]⟩:=ah
theorem ok2:cW Tryz.prog 2:=Tryz.call2
theorem ok3:cW Tryz.prog 3:=Tryz.call3
theorem ok4:cW Tryz.prog 4:=Tryz.call4
theorem ok5:cW Tryz.prog 5:=Tryz.call5
theorem ok6:cW Tryz.prog 6:=Tryz.call6
theorem ok7:cW Tryz.prog 7:=Tryz.call7
theorem ok8:cW Tryz.prog 8:=Tryz.call8
theorem ok9:cW Tryz.prog 9:=Tryz.call9
theorem gI:cW Tryz.prog 10:=Tryz.call10
theorem GM:cW Tryz.prog 11:=Tryz.call11
theorem GN:cW Tryz.prog 12:=Tryz.call12
theorem UK:cW Tryz.prog 13:=Tryz.call13
theorem Bf:cW Tryz.prog 14:=Tryz.call14
theorem GO:cW Tryz.prog 15:=Tryz.call15
theorem yf:cW Tryz.prog 16:=Tryz.call16
theorem GP:cW Tryz.prog 17:=Tryz.call17
theorem Bg:cW Tryz.prog 18:=Tryz.call18
theorem Bh:cW Tryz.prog 19:=Tryz.call19
theorem GQ:cW Tryz.prog 20:=Tryz.call20
theorem GT:cW Tryz.prog 21:=Tryz.call21
theorem GU:cW Tryz.prog 22:=Tryz.call22
theorem GV:cW Tryz.prog 23:=Tryz.call23
theorem GW:cW Tryz.prog 24:=Tryz.call24
theorem Bj:cW Tryz.prog 25:=Tryz.call25
theorem mG:cW Tryz.prog 26:=Tryz.call26
theorem r9:cW Tryz.prog 27:=Tryz.call27
theorem GX:cW Tryz.prog 28:=Tryz.call28
theorem GY:cW Tryz.prog 29:=Tryz.call29
theorem yg:cW Tryz.prog 30:=Tryz.call30
theorem Bk:cW Tryz.prog 31:=Tryz.call31
theorem GZ:cW Tryz.prog 32:=Tryz.call32
theorem G1:cW Tryz.prog 33:=Tryz.call33
theorem Bl:cW Tryz.prog 34:=Tryz.call34
theorem UL:cW Tryz.prog 35:=Tryz.call35
theorem UM:cW Tryz.prog 36:=Tryz.call36
theorem Bm:cW Tryz.prog 37:=Tryz.call37
theorem UN:cW Tryz.prog 38:=Tryz.call38
theorem UO:cW Tryz.prog 39:=Tryz.call39
theorem G2:cW Tryz.prog 40:=Tryz.call40
theorem UP:cW Tryz.prog 41:=Tryz.call41
theorem G3:cW Tryz.prog 42:=Tryz.call42
theorem G4:cW Tryz.prog 43:=Tryz.call43
theorem G5:cW Tryz.prog 44:=Tryz.call44
theorem qh:cW Tryz.prog 45:=Tryz.call45
theorem yh:cW Tryz.prog 46:=Tryz.call46
theorem rh:cW Tryz.prog 47:=Tryz.call47
theorem G6:cW Tryz.prog 48:=Tryz.call48
theorem UQ:cW Tryz.prog 49:=Tryz.call49
theorem G7:cW Tryz.prog 50:=Tryz.call50
theorem G8:cW Tryz.prog 51:=Tryz.call51
theorem G9:cW Tryz.prog 52:=Tryz.call52
theorem G':cW Tryz.prog 53:=Tryz.call53
theorem Gz:cW Tryz.prog 54:=Tryz.call54
theorem GB:cW Tryz.prog 55:=Tryz.call55
theorem Bn:cW Tryz.prog 56:=Tryz.call56
theorem oH:cW Tryz.prog 57:=Tryz.call57
theorem GC:cW Tryz.prog 58:=Tryz.call58
theorem UR:cW Tryz.prog 59:=Tryz.call59
theorem GD:cW Tryz.prog 60:=Tryz.call60
theorem GE:cW Tryz.prog 61:=Tryz.call61
theorem GF:cW Tryz.prog 62:=Tryz.call62
theorem Bo:cW Tryz.prog 63:=Tryz.call63
theorem Bp:cW Tryz.prog 64:=Tryz.call64
theorem GG:cW Tryz.prog 65:=Tryz.call65
theorem GH:cW Tryz.prog 66:=Tryz.call66
theorem GI:cW Tryz.prog 67:=Tryz.call67
theorem GJ:cW Tryz.prog 68:=Tryz.call68
theorem Ha:cW Tryz.prog 69:=Tryz.call69
theorem Hb:cW Tryz.prog 70:=Tryz.call70
theorem Hc:cW Tryz.prog 71:=Tryz.call71
theorem Bq:cW Tryz.prog 72:=Tryz.call72
theorem Hd:cW Tryz.prog 73:=Tryz.call73
theorem yi:cW Tryz.prog 74:=Tryz.call74
theorem He:cW Tryz.prog 75:=Tryz.call75
theorem Hf:cW Tryz.prog 76:=Tryz.call76
theorem Hg:cW Tryz.prog 77:=Tryz.call77
theorem wv:cW Tryz.prog 78:=Tryz.call78
theorem ww:cW Tryz.prog 79:=Tryz.call79
theorem yj:cW Tryz.prog 80:=Tryz.call80
theorem Hh:cW Tryz.prog 81:=Tryz.call81
theorem Hi:cW Tryz.prog 82:=Tryz.call82
theorem Hj:cW Tryz.prog 83:=Tryz.call83
theorem Hk:cW Tryz.prog 85:=Tryz.call85
theorem Hl:cW Tryz.prog 86:=Tryz.call86
theorem US:cW Tryz.prog 87:=Tryz.call87
theorem Hm:cW Tryz.prog 88:=Tryz.call88
theorem Br:cW Tryz.prog 89:=Tryz.call89
theorem UT:cW Tryz.prog 90:=Tryz.call90
theorem yk:cW Tryz.prog 91:=Tryz.call91
theorem Hn:cW Tryz.prog 92:=Tryz.call92
theorem UU:cW Tryz.prog 93:=Tryz.call93
theorem o8:cW Tryz.prog 94:=Tryz.call94
theorem yl:cW Tryz.prog 95:=Tryz.call95
theorem qi:cW Tryz.prog 96:=Tryz.call96
theorem UV:cW Tryz.prog 97:=Tryz.call97
theorem Ho:cW Tryz.prog 98:=Tryz.call98
theorem Hp:cW Tryz.prog 99:=Tryz.call99
theorem FR:cW Tryz.prog 100:=Tryz.call100
theorem TR:cW Tryz.prog 101:=Tryz.call101
theorem TS:cW Tryz.prog 102:=Tryz.call102
theorem FS:cW Tryz.prog 103:=Tryz.call103
theorem FU:cW Tryz.prog 104:=Tryz.call104
theorem FV:cW Tryz.prog 105:=Tryz.call105
theorem FW:cW Tryz.prog 106:=Tryz.call106
theorem FX:cW Tryz.prog 110:=Tryz.call110
theorem TT:cW Tryz.prog 112:=Tryz.call112
theorem Az:cW Tryz.prog 113:=Tryz.call113
theorem AB:cW Tryz.prog 114:=Tryz.call114
theorem TU:cW Tryz.prog 115:=Tryz.call115
theorem FY:cW Tryz.prog 116:=Tryz.call116
theorem FZ:cW Tryz.prog 117:=Tryz.call117
theorem TV:cW Tryz.prog 141:=Tryz.call141
theorem F3:cW Tryz.prog 142:=Tryz.call142
theorem xW:cW Tryz.prog 143:=Tryz.call143
theorem TW:cW Tryz.prog 144:=Tryz.call144
theorem F4:cW Tryz.prog 145:=Tryz.call145
theorem xX:cW Tryz.prog 146:=Tryz.call146
theorem F5:cW Tryz.prog 152:=Tryz.call152
theorem F6:cW Tryz.prog 160:=Tryz.call160
theorem F7:cW Tryz.prog 161:=Tryz.call161
theorem qqh:Tryz.prog.follows .mixedOrders=true:=hm
def G0:Nat→List FD:=fun _=>[]
def Q1:Tbl:=iW
attribute [go_sem] Q1
theorem hQ1:b9 Tryz.prog G0 Q1:=zE
def Q2:Tbl:=Q1.add 29 (sp2 (fun(l:List Str) (s:Str)=>decide (s∈l)) fun _ _=>True)
attribute [go_sem] Q2
theorem hQ2:b9 Tryz.prog G0 Q2:=by
 refine gN GY hQ1 fun l s _ ha hb=>?_;have la:=iN ha;simp only[aG,dt]at la;refine rv (N:=17) hm hQ1 29000 qWi GY Tryz.func29 rfl ?_;simp only[go_sem];refine cI hm hQ1 29000 qWi (ι:=eO l.length fun i=>s∉l.take i) ⟨fun i=>⟨frL [(0,.fz (enc l)),(1,.fz (enc s)),(7,.fz (enc l)),(8,eI l.length),(9,eI i.i)],hpL [],0⟩,fun i=>l.length-i.i⟩ ⟨0,ak,ak⟩ ah ?_ ?_
 ·refine bF ?_ ?_ ?_<;>simp only[go_sem]
 ·intro i;have hi:=i.hi;simp only[go_sem];refine gG.d (fun h2=>?_) (fun h2=>?_)
  ·simp only[go_sem,h2,bh];refine gG.d (fun h4=>?_) (fun h4=>?_)
   ·have hin:s∈l:=h4▸aT h2;simp only[go_sem,Tryz.f29,hin]
   ·simp only[go_sem];refine rx ae ?_;simp only[go_sem];refine⟨⟨i.i+1,ae,IY h2 i.hp h4⟩,af,?_⟩;refine bF ?_ ?_ ?_<;>simp only[go_sem]
  ·simp only[go_sem,Tryz.f29,K3 h2 i.hp]
def Q3:Tbl:=Q2.add 83 (sp2 idx fun _ _=>True)
attribute [go_sem] Q3
theorem hQ3:b9 Tryz.prog G0 Q3:=by
 refine gN Hj hQ2 fun l s _ ha hb=>?_;have la:=iN ha;simp only[aG,dt]at la;refine rv (N:=19) hm hQ2 83000 qWi Hj Tryz.func83 rfl ?_;simp only[go_sem];refine cI hm hQ2 83000 qWi (ι:=eO l.length fun i=>s∉l.take i) ⟨fun i=>⟨frL [(0,.fz (enc l)),(1,.fz (enc s)),(7,eI l.length),(8,eI i.i)],hpL [],0⟩,fun i=>l.length-i.i⟩ ⟨0,ak,ak⟩ ah ?_ ?_
 ·refine bF ?_ ?_ ?_<;>simp only[go_sem]
 ·intro i;have hi:=i.hi;simp only[go_sem];refine gG.d (fun h2=>?_) (fun h2=>?_)
  ·simp only[go_sem,h2,bh];refine gG.d (fun h4=>?_) (fun h4=>?_)
   ·have hin:s∈l:=h4▸aT h2;have e:idx l s=i.i:=by unfold idx;rw[aF hin,zX (l:=l) h2 i.hp h4.symm]
    simp only[go_sem,Tryz.f83,e]
   ·simp only[go_sem];refine rx ae ?_;simp only[go_sem];refine⟨⟨i.i+1,ae,IY h2 i.hp fun e=>h4 e.symm⟩,af,?_⟩;refine bF ?_ ?_ ?_<;>simp only[go_sem]
  ·have e:idx l s= -1:=by unfold idx;rw[az (K3 h2 i.hp)]
   simp only[go_sem,Tryz.f83,e]
def Q4:Tbl:=Q3.add 61 (sp2 (fun(l:List Str) (s:Str)=>decide (s∈l)) fun _ _=>True)
attribute [go_sem] Q4
theorem hQ4:b9 Tryz.prog G0 Q4:=by
 refine gN GE hQ3 fun l s _ ha hb=>?_;refine rv (N:=9) hm hQ3 61000 qWi GE Tryz.func61 rfl ?_;have e:decide (0≤idx l s)=decide (s∈l):=by unfold idx;split<;>rename_i h<;>simp[h]
 simp only[go_sem,Q3,Tryz.f61,e]
def Q5:Tbl:=Q4.add 100 (sp1 dI fun _=>True)
attribute [go_sem] Q5
theorem hQ5:b9 Tryz.prog G0 Q5:=by
  refine iD FR hQ4 fun s _ hs=>?_;have ls:=Gs hs;simp only[dt]at ls;refine rv (N:=55) hm hQ4 100000 qWi FR Tryz.func100 rfl ?_;simp only[go_sem]
  repeat'(first|refine gG.d (fun _=>?_) (fun _=>?_)|refine rq ?_|simp only[go_sem,Tryz.f100, *])
  · rw[tb qQq]
  · rw[tb qQq]
  · rw[tb qQq]
  · rw[tb qQq]
  · refine cI hm hQ4 100000 qWi (ι:=eO s.l.length fun i=>∀j,j<i→okc (s.l.getD j 0)) ⟨fun i=>⟨frL [(0,.fz (enc s)),(24,eI s.l.length),(25,eI i.i)],hpL [],0⟩,fun i=>s.l.length-i.i⟩ ⟨0,ak,ak⟩ ah ?_ ?_
    · refine bF ?_ ?_ ?_<;>simp only[go_sem]
    · intro i;have hi:=i.hi;have hp:=i.hp;simp only[go_sem];refine gG.d (fun h2=>?_) (fun h2=>?_)
      · repeat'(first|refine gG.d (fun _=>?_) (fun _=>?_)|refine rq ?_|simp only[go_sem,Tryz.f100, *])
        all_goals first
          |rw[MU h2 qWf]
          |(refine⟨⟨i.i+1,ae,Kt hp qWf⟩,af,?_⟩
            refine bF ?_ ?_ ?_<;>simp only[go_sem])
      · simp only[go_sem,Tryz.f100];rw[yL ae ae qQq fun j hj=>hp j ae]
def Q6:Tbl:=Q5.add 28 (sp1 dI fun _=>True)
attribute [go_sem] Q6
theorem hQ6:b9 Tryz.prog G0 Q6:=by
  refine iD GX hQ5 fun s _ hs=>?_;have ls:=Gs hs;simp only[dt]at ls;refine rv (N:=62) hm hQ5 28000 qWi GX Tryz.func28 rfl ?_;simp only[go_sem]
  repeat'(first|refine gG.d (fun _=>?_) (fun _=>?_)|refine rq ?_|simp only[go_sem,Tryz.f28, *])
  · rw[tb qQq]
  · rw[tb qQq]
  · refine cI hm hQ5 28000 qWi (ι:=eO s.l.length fun i=>(∀j,j<i→okc (s.l.getD j 0))∧(0<i→mZ (s.l.getD 0 0))) ⟨fun i=>⟨frL [(0,.fz (enc s)),(3,eI i.i)],hpL [],0⟩,fun i=>s.l.length-i.i⟩ ⟨0,ak,ak⟩ ah ?_ ?_
    · refine bF ?_ ?_ ?_<;>simp only[go_sem]
    · intro i;have hi:=i.hi;have hp:=i.hp.1;have hz:=i.hp.2;simp only[go_sem];refine gG.d (fun h2=>?_) (fun h2=>?_)
      · repeat'(first|refine gG.d (fun _=>?_) (fun _=>?_)|refine rq ?_|simp only[go_sem,Tryz.f28, *])
        all_goals first
          |rw[Zj (s:=s) (j:=i.i) ae qQq]
          |rw[MU h2 qWf]
          |(refine⟨⟨i.i+1,ae,Kt hp qWf,Qp hz qQq⟩,af,?_⟩
            refine bF ?_ ?_ ?_<;>simp only[go_sem])
      · simp only[go_sem,Tryz.f28];rw[yL ae ae (hz ae) fun j hj=>hp j ae]
def Q7:Tbl:=Q6.add 64 (sp1 (fun l:List Str=>l) fun l=>l.length≤4194304)
attribute [go_sem] Q7
theorem hQ7:b9 Tryz.prog G0 Q7:=by
 refine iD Bp hQ6 fun l hl hw=>?_;refine rv (N:=8) hm hQ6 64000 qWi Bp Tryz.func64 rfl ?_;simp only[go_sem];refine qV.i fun b hb=>?_;cases b
 ·simp only[go_sem];refine rx (QO ae ai) ?_;simp only[go_sem,Tryz.f64]
 ·have:l=[]:=bG (hb rfl);subst this;simp only[go_sem,Tryz.f64]
def Q8:Tbl:=Q7.add 99 (sp1 lz fun _=>True)
attribute [go_sem] Q8
theorem hQ8:b9 Tryz.prog G0 Q8:=by
 refine iD Hp hQ7 fun k _ hs=>?_;refine rv (N:=16) hm hQ7 99000 qWi Hp Tryz.func99 rfl ?_
 repeat'(first|refine gG.d (fun _=>?_) (fun _=>?_)|refine rq ?_|simp only[go_sem,Tryz.f99, *])
 all_goals(unfold lz;first|rw[aF ae]|rw[az ae,aF ae]|rw[az ae,az ae,aF ae]|rw[az ae,az ae,az ae])
def Q9:Tbl:=Q8.add 86 (sp1 (fun f:Abs.aH=>decide (f.kind=8∨f.kind=9)) fun _=>True)
attribute [go_sem] Q9
theorem hQ9:b9 Tryz.prog G0 Q9:=by
 refine iD Hl hQ8 fun f _ hs=>?_;refine rv (N:=11) hm hQ8 86000 qWi Hl Tryz.func86 rfl ?_
 repeat'(first|refine gG.d (fun _=>?_) (fun _=>?_)|refine rq ?_|simp only[go_sem,Tryz.f86, *])
theorem f98 {c a:Int}{id:Abs.Id}{H:bR}{n:Nat}{R:D→bR→Nat→Prop}(hid:id.2<n)(ho:H id=some ⟨[.fz (.i .i64 a)],true,false⟩)(hR:∀n',n≤n'→R (.agg [.fz (.i .i64 c),.fz (.i .i64 a)]) H n'):
  cS Tryz.prog G0 98 [.fz (.i .i64 c),.ptr id 0] H n R:=by
 refine uE Ho (fun hfr=>?_) hR;have hne:id≠(98003,n):=by rintro rfl;simp at hid
 have hne':(id=(98003,n))=False:=aP hne;obtain⟨Q,hQ⟩:∃Q:D→bR→Nat→Prop,Q=(fun d' H' n'=>d'= .agg [.fz (.i .i64 c),.fz (.i .i64 a)]∧n≤n'∧∀id,id.2<n→H' id=H id):=⟨_,rfl⟩;rw[←hQ];have e:H=hpX [] H:=rfl;rw[e];refine rv (N:=7) hm hQ9 98000 qWi Ho Tryz.func98 rfl ?_;simp only[go_sem];rw[az hne,ho];simp only[go_sem,Tryz.f98];rw[hQ];refine⟨?_,ae,fun id hid=>NO (n:=n) (by intro p hp;simp at hp;rcases hp with rfl|rfl<;>simp) id hid⟩;simp only[go_sem]
attribute [local irreducible] dI
def HHc (op:Bool)(n:Nat):List (Abs.Id×Option O):=
  [((75005,3),some ⟨[.fz (.i .i64 n)],true,false⟩),((75003,1),some ⟨[.fz (.b op)],true,false⟩),
   ((75006,4),some ⟨[.fn 97 [.ptr (75005,3) 0,.ptr (75003,1) 0,.ptr (75006,4) 0]],true,false⟩),
   ((75004,2),some ⟨[.fz (.i .i64 0),.fz (.i .i64 0)],true,false⟩)]
def sS (x:iY):D:= .agg [.fz (.i .i64 x.code),.fz (.i .i64 x.index)]
theorem QT {op:Bool}{f:Abs.aH}{d:Int}{n:Nat}(h:jV op f d n≠0):chk op f d n=(⟨jV op f d n,n⟩,n+1):=by rw[DY,aF h]
theorem bn {s:Str}:(⟨s.l⟩:Str)=s:=rfl
theorem RZ {s:Str}:s=⟨[]⟩↔s.l=[]:=by cases s;simp
def rQ (id:Abs.Id):List (Abs.Id×Option O)→Prop
 |[]=>True
 |(i,_)::l=>i≠id∧rQ id l
theorem oL {id:Abs.Id}{X:bR}:∀{l:List (Abs.Id×Option O)},rQ id l→hpX l X id=X id
 |[],_=>rfl
 |(i,o)::l,h=>by simp only[hpX];rw[az (fun e=>h.1 e.symm)];exact oL h.2
theorem pm {op:Bool}{f:Abs.aH}{d p:Int}{n:Nat}(hp:iU op f=p):jV op f d n=if 200<(n:Int)+1∨40<d then 1 else if p<0 then 4
  else if¬((f.subs.length:Int)=p∧(f.kind=2→(f.words.length:Int)≤3)∧(f.kind=3→(f.words.length:Int)=2)∧(f.kind≠2→f.kind≠3→(f.words.length:Int)=0))then 9
  else if(f.kind=2∨f.kind=8∨f.kind=9∨f.kind=10)∧dI f.name=false then 10 else if¬(f.kind=2∨f.kind=8∨f.kind=9∨f.kind=10)∧¬f.name.l=[]then 5 else if f.words.all dI=false then 10 else 0:=by
 have e1:(200<n+1∨40<d)=(200<(n:Int)+1∨40<d):=propext ae;have e2:(pA f=true)=((f.kind=2→(f.words.length:Int)≤3)∧(f.kind=3→(f.words.length:Int)=2)∧(f.kind≠2→f.kind≠3→(f.words.length:Int)=0)):=propext (by
  unfold pA;by_cases h2:f.kind=2
  ·rw[aF h2,bi];omega
  ·rw[az h2];by_cases h3:f.kind=3
   ·rw[aF h3,bi];omega
   ·rw[az h3,bi];omega)
 have e3:(f.name≠⟨[]⟩)=¬f.name.l=[]:=propext (by rw[Ne,RZ]);unfold jV;simp only[hp,e1,e2,e3,named,bi,decide_eq_false_iff_not]
theorem EW:lz 10= -1:=ai
theorem FP:lz 2=0:=ai
theorem FQ:lz 3=0:=ai
theorem IV (op:Bool)(f:Abs.aH):(f.kind=2∧iU op f=0)∨(f.kind=3∧iU op f=0)∨(f.kind=10∧op=true∧iU op f=0)∨(f.kind=10∧op=false∧iU op f= -1)∨(¬f.kind=2∧¬f.kind=3∧¬f.kind=10∧iU op f=lz f.kind):=by
 unfold iU;by_cases h2:f.kind=2
 ·exact .inl ⟨h2,by rw[az ae,h2];rfl⟩
 by_cases h3:f.kind=3
 ·exact .inr (.inl ⟨h3,by rw[az ae,h3];rfl⟩)
 by_cases h10:f.kind=10
 ·cases op
  ·exact .inr (.inr (.inr (.inl ⟨h10,rfl,by rw[az ak,h10];rfl⟩)))
  ·exact .inr (.inr (.inl ⟨h10,rfl,by rw[aF ⟨h10,rfl⟩]⟩))
 ·exact .inr (.inr (.inr (.inr ⟨h2,h3,h10,by rw[az (fun h=>h10 h.1)]⟩)))
theorem qo {P:Program}{G:Nat→List FD}{f:FuncId}{args:List D}{H X:bR}{hl:List (Abs.Id×Option O)}{n n':Nat}{R:D→bR→Nat→Prop}(hf:pM (frL (lE 0 args)) (lE 0 args))(hh:iO H hl)(hx:∀id o,X id=some o→H id=some o)(hn:n≤n')(h:cS P G f args (hpX hl X) n' R):cS P G f args H n R:=
 uF rfl (oo hf (iO.getX hx hh) hn) h
theorem qw {P:Program}{G:Nat→List FD}{f:FuncId}{d:D}{x:FD}{rest:List D}{H:bR}{n:Nat}{R:D→bR→Nat→Prop}(ha:D.toFDs [d]=some [x])(h:cS P G f (.fz x::rest) H n R):cS P G f (d::rest) H n R:=by
 refine⟨h.1,fun w L F vs hok hvs=>h.2 w L F vs hok ?_⟩;cases vs with
 |nil=>simp[cA]at hvs
 |cons v vs=>
  simp only[cA]at hvs ⊢;have h1:cA w L F (Ub n) [d] [v]:=by simp only[cA];exact⟨hvs.1,trivial⟩
  have h2:cA w L F (Ub n) ([x].map .fz) [v]:=h1.of_toFDs ha;simp only[aM,aQ,cA]at h2;exact⟨h2.1,hvs.2⟩
structure Kp (p:Prop):Prop where
 out:p
structure Fu (n0 len:Nat)(p:Nat→Nat→Prop) where
 j:Nat
 n:Nat
 m:Nat
 hj:j≤len
 hm:n0≤m
 hp:p j n
theorem f97 (op:Bool):∀(k:Nat) (f:Abs.aH) (d:Int) (n m:Nat) (X:bR),f.size≤k→(enc f).Wf→0≤d→d≤41→n≤200→4<m→
  (∀id o,X id=some o→id.2<m∧id.1≠75003∧id.1≠75004∧id.1≠75005∧id.1≠75006)→
  cS Tryz.prog G0 97 [.fz (enc f),.fz (.i .i64 d),.ptr (75005,3) 0,.ptr (75003,1) 0,.ptr (75006,4) 0] (hpX (HHc op n) X) m
   (fun d' H' n'=>d'=sS (chk op f d n).1∧m≤n'∧iO H' (HHc op (chk op f d n).2)∧∀id o,X id=some o→H' id=some o):=by
 intro k;induction k with
 |zero=>intro f d n m X hs;have:=f.size_pos;omega
 |succ k ih=>
  intro f d n m X hs hw hd0 hd hn hm' hX;obtain⟨Q,hQ⟩:∃Q:D→bR→Nat→Prop,Q=(fun d' H' n'=>d'=sS (chk op f d n).1∧m≤n'∧iO H' (HHc op (chk op f d n).2)∧∀id o,X id=some o→H' id=some o):=⟨_,rfl⟩;rw[←hQ];have hbad:∀{c:Int} {d':D} {H':bR} {n':Nat},jV op f d n=c→c≠0→d'=sS ⟨c,n⟩→m≤n'→iO H' (HHc op (n+1))→(∀id o,X id=some o→H' id=some o)→Q d' H' n':=fun h1 h2 h3 h4 h5 h6=>by rw[hQ];have e:chk op f d n=(⟨_,n⟩,n+1):=(QT (by rw[h1];exact h2)).trans (by rw[h1]);rw[e];exact⟨h3,h4,h5,h6⟩
  have hX':∀{l:List (Abs.Id×Option O)} (id o),X id=some o→(id.2<m∧id.1≠75003∧id.1≠75004∧id.1≠75005∧id.1≠75006→rQ id l)→hpX l X id=some o:=fun id o h1 h2=>(oL (h2 (hX id o h1))).trans h1;have hwl:f.words.length≤dt:=by have h:=jh qQf (FD.sl (f.words.map enc)) ak;have:=iN h;simpa using this
  have hsl:f.subs.length≤dt:=by have h:=jh qQf (FD.sl (f.subs.map enc)) ak;have:=iN h;simpa using this
  have hsw:∀g∈f.subs,(enc g).Wf:=fun g hg=>oU (jh qQf (FD.sl (f.subs.map enc)) ak) _ (cR hg);have hss:∀g∈f.subs,g.size≤k:=fun g hg=>by have:=aH.size_sub hg;omega
  unfold dt at hwl hsl;have kX:=Kp.mk @hX';have kQ:=Kp.mk hQ;have kI:=Kp.mk ih;have kS:=Kp.mk hsw;have kZ:=Kp.mk hss;have kb:=Kp.mk @hbad;have kx:=Kp.mk hX;clear hX' hQ ih hsw hss hX hbad;refine rv (N:=133) hm hQ9 97000 qWi UV Tryz.func97 rfl ?_;rcases IV op f with⟨hk,hp⟩|⟨hk,hp⟩|⟨hk,hop,hp⟩|⟨hk,hop,hp⟩|⟨hk,hk3,hk10,hp⟩
  all_goals repeat'(first|refine gG.d (fun _=>?_) (fun _=>?_)|refine gG.i (fun _=>?_) (fun _=>?_)|refine rq ?_|refine dJ.i (f98 (a:=(n:Int)) af qQu fun n' hn'=>?_)|simp only[go_sem,HHc,EW,FP,FQ,Tryz.f97, *])
  all_goals try
   refine kb.out (by first
    |rw[pm hp,aF ae]
    |rw[pm hp,az ae,aF ae]
    |rw[pm hp,az ae,az ae,aF ae]
    |rw[pm hp,az ae,az ae,az ae,aF ⟨ae,by first|assumption|simp_all[bn]⟩]
    |rw[pm hp,az ae,az ae,az ae,az ae,aF ⟨ae,by assumption⟩]) ai rfl ae (by first|(simp only[go_sem,HHc];done)|(simp only[go_sem,HHc,hop];done)) fun id o ho=>?_
   refine kX.out id o ho fun h1=>?_
   ((repeat'(first|exact trivial|apply au))<;>(rintro rfl;simp only at h1;omega))
  all_goals
   have hN:jV op f d n=if f.words.all dI=false then 10 else 0:=by rw[pm hp,az ae,az ae,az ae,az (by first|omega|(rintro⟨_,h⟩;simp_all[bn])),az (by first|omega|(rintro⟨_,h⟩;simp_all))]
  all_goals
   refine cI hm hQ9 97000 qWi (ι:=fW f.words.length (m+1+1+1) fun i=>(f.words.take i).all dI=true)
    ⟨fun q=>⟨frL [(1,eI d),(2,.ptr (75005,3) 0),(3,.ptr (75003,1) 0),(4,.ptr (75006,4) 0),(5,.ptr (97005,m) 0),(7,.ptr (97007,m+1) 0),(9,.fn 98 [.ptr (97008,m+1+1) 0]),
      (103,.fz (.sl (f.words.map enc))),(104,.fz (.i .i64 f.words.length)),(105,.fz (.i .i64 q.i))],
     hpX ([((97007,m+1),some ⟨[.fz (.i .i64 0),.fz (.i .i64 0)],true,false⟩),((97008,m+1+1),some ⟨[.fz (.i .i64 n)],true,false⟩),
      ((97005,m),some ⟨[.fz (.i .i64 f.kind),.fz (.s f.name.l),.fz (.sl (f.words.map enc)),.fz (.sl (f.subs.map enc))],true,false⟩)]++HHc op (n+1)) X,q.m⟩,fun q=>f.words.length-q.i⟩
    ⟨0,_,ae,aI _,ak⟩ ah ?_ ?_
   ·refine gT ?_ ?_ (fun id o ho=>?_) ?_
    ·simp only[go_sem, *]
    ·simp only[go_sem,HHc, *]
    ·refine kX.out id o ho fun h1=>?_
     ((repeat'(first|exact trivial|apply au))<;>(rintro rfl;simp only at h1;omega))
    ·simp only[go_sem]
   rintro⟨i,q,hi,hq,hpi⟩
   try simp only at hi hq hpi
   rcases aA i f.words.length with h1|h1
   ·cases hnm:dI f.words[i]with
    |false=>
     have hall:f.words.all dI=false:=iJ.2 ⟨_,aT h1,by simp[hnm]⟩;rw[aF hall]at hN
     repeat'(first|refine rq ?_|refine dJ.i (f98 (a:=(n:Int)) af qQu fun n' hn'=>?_)|simp only[go_sem,HHc,h1,hnm,bn,bh,Tryz.f97])
     refine kb.out hN ai rfl ae qQu fun id o ho=>?_;refine kX.out id o ho fun h1=>?_
     ((repeat'(first|exact trivial|apply au))<;>(rintro rfl;simp only at h1;omega))
    |true=>
     repeat'(first|refine rq ?_|simp only[go_sem,HHc,h1,hnm,bn,bh,Tryz.f97])
     refine⟨⟨i+1,q,ae,ae,by rw[Bu h1,hpi,hnm];rfl⟩,af,?_⟩;refine gT ?_ ?_ (fun id o ho=>?_) ?_
     ·simp only[go_sem]
     ·simp only[go_sem,HHc]
     ·refine kX.out id o ho fun h1=>?_
      ((repeat'(first|exact trivial|apply au))<;>(rintro rfl;simp only at h1;omega))
     ·simp only[go_sem]
   ·have h1':¬i<f.words.length:=ae
    rw[bV h1]at hpi;rw[az (by rw[hpi];simp)]at hN
    repeat'(first|refine rq ?_|simp only[go_sem,HHc,h1',bh,Tryz.f97])
    have hchk:chk op f d n=gX op f.subs (d+1) (n+1):=by rw[DY,az (by rw[hN];simp)]
    refine cI hm hQ9 97000 qWi (ι:=Fu (m+1+1+1) f.subs.length fun j n2=>n2≤200∧gX op f.subs (d+1) (n+1)=gX op (f.subs.drop j) (d+1) n2)
     ⟨fun q=>⟨frL [(1,eI d),(2,.ptr (75005,3) 0),(3,.ptr (75003,1) 0),(4,.ptr (75006,4) 0),(7,.ptr (97007,m+1) 0),
       (116,.fz (.sl (f.subs.map enc))),(117,.fz (.i .i64 f.subs.length)),(118,.fz (.i .i64 q.j))],
      hpX (((97007,m+1),some ⟨[.fz (.i .i64 0),.fz (.i .i64 0)],true,false⟩)::HHc op q.n) X,q.m⟩,fun q=>f.subs.length-q.j⟩
     ⟨0,n+1,q,ae,hq,ae,rfl⟩ ah ?_ ?_
    ·refine gT ?_ ?_ (fun id o ho=>?_) ?_
     ·simp only[go_sem]
     ·simp only[go_sem,HHc]
     ·refine kX.out id o ho fun h1=>?_
      ((repeat'(first|exact trivial|apply au))<;>(rintro rfl;simp only at h1;omega))
     ·simp only[go_sem]
    rintro⟨j,n2,q2,hj,hq2,hn2,hch⟩
    try simp only at hj hq2 hn2 hch
    rcases aA j f.subs.length with h2|h2
    ·have hmem:=aT h2;rw[aR h2,gX]at hch;have ih2:=kI.out f.subs[j] (d+1) n2 (q2+1) (hpX [((97007,m+1),some ⟨[.fz (.i .i64 0),.fz (.i .i64 0)],true,false⟩)] X) (kZ.out _ hmem) (kS.out _ hmem) ae ae hn2 ae (by
      intro id o ho;simp only[hpX]at ho;split at ho
      ·rename_i e;subst e;simp only;omega
      ·have:=kx.out id o ho;omega)
     rw[jf]at ih2
     repeat'(first|refine rq ?_|simp only[go_sem,HHc,h2,bh,Tryz.f97])
     refine dJ.i (qw rfl (qo qQl qQu (fun id o ho=>?_) (aI _) (jl ih2 ?_)))
     ·simp only[hpX]at ho;split at ho
      ·rename_i e;subst e;simp only[go_sem];exact bq ho
      ·refine kX.out id o ho fun h1=>?_
       ((repeat'(first|exact trivial|apply au))<;>(rintro rfl;simp only at h1;omega))
     rintro d' H' n' ⟨rfl,e1,e2,e3⟩;have b0:=e3 (97007,m+1) ⟨[.fz (.i .i64 0),.fz (.i .i64 0)],true,false⟩ (by simp only[hpX,cJ]);have hX2:∀id o,X id=some o→H' id=some o:=fun id o ho=>e3 id o (kX.out id o ho fun h1=>⟨by rintro rfl;simp only at h1;omega,trivial⟩);simp only[go_sem,HHc]at e2;obtain⟨b1,b2,b3,b4⟩:=e2;rw[show H'=hpX [] H' from rfl];by_cases hc:(chk op f.subs[j] (d+1) n2).1.code=0
     ·rw[az (by rw[hc];simp)]at hch;obtain⟨c1,c2,c3⟩:=xH _ _ _ hc
      repeat'(first|refine rq ?_|simp only[go_sem,HHc,h2,hc,sS,b0,Tryz.f97])
      refine⟨⟨j+1,_,n'+1,ae,ae,c2,hch⟩,af,?_⟩;refine gT ?_ ?_ (fun id o ho=>?_) ?_
      ·simp only[go_sem]
      ·simp only[go_sem,HHc,b0,b1,b2,b3,b4]
      ·have h1:=kx.out id o ho;refine(oL ?_).trans (hX2 id o ho)
       ((repeat'(first|exact trivial|apply au))<;>(rintro rfl;simp only at h1;omega))
      ·simp only[go_sem]
     ·rw[aF hc]at hch
      repeat'(first|refine rq ?_|simp only[go_sem,HHc,h2,hc,sS,b0,Tryz.f97])
      rw[kQ.out,hchk,hch];refine⟨rfl,ae,by simp only[go_sem,HHc,b1,b2,b3,b4],fun id o ho=>?_⟩;have h1:=kx.out id o ho;refine(oL ?_).trans (hX2 id o ho)
      ((repeat'(first|exact trivial|apply au))<;>(rintro rfl;simp only at h1;omega))
    ·have h2':¬j<f.subs.length:=ae
     rw[de h2,gX]at hch
     repeat'(first|refine rq ?_|simp only[go_sem,HHc,h2',sS,Tryz.f97])
     rw[kQ.out,hchk,hch];refine⟨rfl,ae,qQu,fun id o ho=>kX.out id o ho fun h1=>?_⟩
     ((repeat'(first|exact trivial|apply au))<;>(rintro rfl;simp only at h1;omega))
def Q10:Tbl:=Q9.add 75 (sp2 (fun(f:Abs.aH) (op:Bool)=>dB op f) fun _ _=>True)
attribute [go_sem] Q10
theorem Gi:b9 Tryz.prog G0 Q10:=by
 refine gN He hQ9 fun f op _ hf _=>?_;refine rv (N:=11) hm hQ9 75000 qWi He Tryz.func75 rfl ?_;have h:=f97 op f.size f 1 0 5 (fun _=>none) (aI _) hf ae ae ae ae (fun id o ho=>nomatch ho);rw[jf]at h
 repeat'(first|refine rq ?_|simp only[go_sem,Tryz.f75])
 refine dJ.i (qw rfl (qo qQl qQu (fun id o ho=>?_) (aI _) (jl h ?_)))
 ·cases ho
 rintro d' H' n' ⟨rfl,e1,e2,e3⟩;simp only[go_sem,HHc]at e2;obtain⟨b1,b2,b3,b4⟩:=e2;rw[show H'=hpX [] H' from rfl]
 repeat'(first|refine rq ?_|simp only[go_sem,HHc,sS,b4,dB,Tryz.f75])
def Q11:Tbl:=Q10.add 52 (sp1 (fun(f:Abs.aH)=>dB false f) fun _=>True)
attribute [go_sem] Q11
theorem Gj:b9 Tryz.prog G0 Q11:=by
 refine iD G9 Gi fun f _ hf=>?_;refine rv (N:=5) hm Gi 52000 qWi G9 Tryz.func52 rfl ?_
 repeat'(first|refine rq ?_|simp only[go_sem,Tryz.f52])
def Q12:Tbl:=Q11.add 70 (sp1 lz fun _=>True)
attribute [go_sem] Q12
theorem Ve:b9 Tryz.prog G0 Q12:=by
 refine iD Hb Gj fun k _ hs=>?_;refine rv (N:=13) hm Gj 70000 qWi Hb Tryz.func70 rfl ?_;by_cases h:1≤k∧k≤9
 ·have hk:k=1∨k=2∨k=3∨k=4∨k=5∨k=6∨k=7∨k=8∨k=9:=ae
  rcases hk with rfl|rfl|rfl|rfl|rfl|rfl|rfl|rfl|rfl
  all_goals
   repeat'(first|refine rq ?_|simp only[go_sem,Tryz.f70,lz])
 ·have e:lz k= -1:=by unfold lz;rw[az ae,az ae,az ae]
  repeat'(first|refine gG.d (fun _=>?_) (fun _=>?_)|refine rq ?_|simp only[go_sem,Tryz.f70,e, *])
  all_goals(exfalso;omega)
def Q13:Tbl:=Q12
attribute [go_sem] Q13
theorem Vf:b9 Tryz.prog G0 Q13:=Ve
def Q14:Tbl:=Q13
attribute [go_sem] Q14
theorem Gk:b9 Tryz.prog G0 Q14:=Vf
def Q15:Tbl:=Q14.add 6 (sp2 tT fun _ _=>True)
attribute [go_sem] Q15
theorem Vg:b9 Tryz.prog G0 Q15:=by
 refine gN ok6 Gk fun nm w _ _ hs=>?_;refine rv (N:=8) hm Gk 6000 qWi ok6 Tryz.func6 rfl ?_
 repeat'(first|refine rq ?_|simp only[go_sem,Tryz.f6,tT])
def Q16:Tbl:=Q15
attribute [go_sem] Q16
theorem Vh:b9 Tryz.prog G0 Q16:=Vg
def Q17:Tbl:=Q16
attribute [go_sem] Q17
theorem Vi:b9 Tryz.prog G0 Q17:=Vh
def Q18:Tbl:=Q17
attribute [go_sem] Q18
theorem wg:b9 Tryz.prog G0 Q18:=Vi
theorem dZ {n b:Nat}(h:n≤1000000000)(hb:b≤256):fits n b:=by have h1:n≤dt:=bz h (by unfold dt;decide);refine⟨h1,bz (gZ _ hb) ?_⟩;omega
def o5 (p:Abs.aH×Int):FD:= .agg [.i .i64 p.1.kind,.s p.1.name.l,.sl (p.1.words.map enc),.sl (p.1.subs.map enc),.i .i64 p.2]
theorem SF (l:List (Abs.aH×Int)):dP (l.map o5) 5:=fun x hx=>by obtain⟨a,_,rfl⟩:=be.1 hx;rfl
theorem BP (l:List (Abs.aH×Int)):(bA (l.map o5)).length=l.length*5:=by rw[mw (jJ (SF l)),aG]
theorem Jp {xs ys:List FD}:bA (xs++ys)=bA xs++bA ys:=by simp[bA]
theorem Wu (op:Bool)(f:Abs.aH):(f.kind=2∧iU op f=0)∨(f.kind=3∧iU op f=0)∨(f.kind=10∧op=true∧iU op f=0)∨(f.kind=10∧op=false∧iU op f= -1)∨(f.kind=8∧iU op f=1)∨(f.kind=9∧iU op f=1)∨
  (¬f.kind=2∧¬f.kind=3∧¬f.kind=10∧¬f.kind=8∧¬f.kind=9∧iU op f=lz f.kind):=by
 rcases IV op f with h|h|h|h|⟨h2,h3,h10,hp⟩
 ·exact .inl h
 ·exact .inr (.inl h)
 ·exact .inr (.inr (.inl h))
 ·exact .inr (.inr (.inr (.inl h)))
 ·by_cases h8:f.kind=8
  ·exact .inr (.inr (.inr (.inr (.inl ⟨h8,by rw[hp,h8];rfl⟩))))
  by_cases h9:f.kind=9
  ·exact .inr (.inr (.inr (.inr (.inr (.inl ⟨h9,by rw[hp,h9];rfl⟩)))))
  exact .inr (.inr (.inr (.inr (.inr (.inr ⟨h2,h3,h10,h8,h9,hp⟩)))))
theorem TP:lz 8=1:=ai
theorem T5:lz 9=1:=ai
structure Stk where
 st:List (Abs.aH×Int)
 cells:List D
 g:Nat
 m:Nat
 n:Nat
theorem RY {cells:List D}{l st:List (Abs.aH×Int)}{x:Abs.aH×Int}(hst:st=l++[x])(hc:cells.take (st.length*5)=bA (st.map o5))(hl:st.length*5≤cells.length):
  (cells.drop (l.length*5)).take 5=[.fz (.i .i64 x.1.kind),.fz (.s x.1.name.l),.fz (.sl (x.1.words.map enc)),.fz (.sl (x.1.subs.map enc)),.fz (.i .i64 x.2)]∧cells.take (l.length*5)=bA (l.map o5):=by
 subst hst;rw[aD,bU,aE,Jp]at hc;have hl2:=BP l;have h1:cells=(bA (l.map o5)++bA ([x].map o5))++cells.drop ((l.length+1)*5):=by rw[←hc,cQ]
 constructor
 ·rw[h1,bu,List.drop_append_of_le_length ae,de ae,aK];rfl
 ·rw[h1,bu,List.take_append_of_le_length ae,bV ae]
def mf (l:List (Abs.aH×Int))(s:List Abs.aH)(d:Int)(j:Nat):List (Abs.aH×Int):=l++((s.drop j).map fun g=>(g,d+1)).reverse
theorem BX {l:List (Abs.aH×Int)}{s:List Abs.aH}{d:Int}:mf l s d s.length=l:=by simp[mf]
theorem I' {l:List (Abs.aH×Int)}{s:List Abs.aH}{d:Int}{j:Nat}:(mf l s d j).length=l.length+(s.length-j):=by simp[mf]
theorem W4 {l:List (Abs.aH×Int)}{s:List Abs.aH}{d:Int}{j:Nat}(h:j<s.length):mf l s d j=mf l s d (j+1)++[(s[j],d+1)]:=by unfold mf;rw[aR h,aM,List.reverse_cons,bu]
theorem Ym {l:List (Abs.aH×Int)}{s:List Abs.aH}{d:Int}:(mf l s d 0).reverse=s.map (fun g=>(g,d+1))++l.reverse:=by simp[mf]
theorem Yl {l:List (Abs.aH×Int)}{s:List Abs.aH}{d:Int}{j:Nat}{a:Abs.aH×Int}(h:a∈mf l s d j):a∈l∨∃g∈s,a=(g,d+1):=by
 unfold mf at h;rcases aO.1 h with h|h
 ·exact .inl h
 ·rw[List.mem_reverse,be]at h;obtain⟨g,hg,rfl⟩:=h;exact .inr ⟨g,List.mem_of_mem_drop hg,rfl⟩
structure Uu where
 j:Nat
 cells:List D
 g:Nat
 m:Nat
set_option maxHeartbeats 8000000 in
theorem f40:b9 Tryz.prog G0 (Q18.add 40 (sp2 (fun(f:Abs.aH) op=>dB op f) fun _ op=>op=false)):=by
 refine gN G2 wg fun f op hop hw _=>?_;obtain rfl:op=false:=hop;obtain⟨Q,hQ⟩:∃Q:D→bR→Nat→Prop,Q=(fun d _ _=>D.val d=some (.fz (enc (dB false f)))):=⟨_,rfl⟩;rw[←hQ];have hres:∀{c i:Int} {H':bR} {n':Nat},dB false f=⟨c,i⟩→Q (.agg [.fz (.i .i64 c),.fz (.i .i64 i)]) H' n':=fun e=>by rw[hQ];show _=some (D.fz (enc (dB false f)));rw[e];rfl
 have kr:=Kp.mk @hres;clear hres hQ;refine rv (N:=150) hm wg 40000 (lst [19,148]) G2 Tryz.func40 rfl ?_
 repeat'(first|refine rq ?_|simp only[go_sem])
 refine cI hm wg 40000 (lst [19,148]) (ι:={q:Stk // Kp (q.g<q.m∧q.cells.take (q.st.length*5)=bA (q.st.map o5)∧q.st.length*5≤q.cells.length∧4≤q.m∧q.n≤200∧q.st.length≤1+2*q.n∧(∀a∈q.st,(enc a.1).Wf∧0≤a.2∧a.2≤41)∧qQ false q.st.reverse q.n=dB false f)})
  ⟨fun q=>⟨frL [(1,.fz (.b false)),(4,.ptr (40004,1) 0),(5,.arr (40148,q.1.g) 5 0 q.1.st.length),(6,eI q.1.n)],
   hpL [((40004,1),some ⟨[eI 0,eI 0],true,false⟩),((40148,q.1.g),some ⟨q.1.cells,false,false⟩)],q.1.m⟩,fun q=>201-q.1.n⟩
  ⟨⟨[(f,1)],[.fz (.i .i64 f.kind),.fz (.s f.name.l),.fz (.sl (f.words.map enc)),.fz (.sl (f.subs.map enc)),.fz (.i .i64 1)],3,4,0⟩,⟨af,rfl,aI _,af,af,ak,by simp only[a7];rintro a rfl;exact⟨hw,ak,ak⟩,ZQ⟩⟩ ah ?_ ?_
 ·refine eX [((40148,3),(40019,2))] [] [] ?_ ?_ ?_ ?_ ?_<;>simp only[go_sem,xM,nf,vL]
 rintro⟨⟨st,cells,g,m,n⟩,kp⟩;obtain⟨hg,hc,hl,hm4,hn,hlen,hwf,hrest⟩:=kp.out
 try simp only at hm4 hn hlen hwf hrest hg hc hl
 rcases List.eq_nil_or_concat st with rfl|⟨l,⟨x,d⟩,hst⟩
 ·have e:dB false f=⟨0,0⟩:=by rw[←hrest];rfl
  repeat'(first|refine rq ?_|simp only[go_sem,bj,Tryz.f40])
  exact kr.out e
 rw[List.concat_eq_append]at hst;obtain⟨hcell,hcut⟩:=RY hst hc hl;have hl1:st.length=l.length+1:=by rw[hst,aD,bU]
 have e1:((st.length:Int)-1).toNat=l.length:=ae
 have e1b:((st.length:Int)-1-0).toNat=l.length:=ae
 have hpos:0<(st.length:Int):=ae
 have hl5:l.length*5+5≤cells.length:=ae
 have hll:l.length≤2*n:=ae
 obtain⟨hx1,hx2,hx3⟩:=hwf (x,d) (by rw[hst];simp);simp only at hx1 hx2 hx3 hcell;have hlwf:∀a∈l,(enc a.1).Wf∧0≤a.2∧a.2≤41:=fun a ha=>hwf a (by rw[hst];exact cx _ ha);rw[hst,List.reverse_append,List.reverse_singleton,List.singleton_append,Yt]at hrest;have hbad:∀{c:Int} {H':bR} {n':Nat},jV false x d n=c→c≠0→Q (.agg [.fz (.i .i64 c),.fz (.i .i64 n)]) H' n':=fun h1 h2=>kr.out (by rw[←hrest,aF (by rw[h1];exact h2),h1]);have hwl:x.words.length≤dt:=by have h:=jh (by have h:=hx1;rw[jf]at h;exact h) (FD.sl (x.words.map enc)) ak;have:=iN h;simpa using this
 have hsl:x.subs.length≤dt:=by have h:=jh (by have h:=hx1;rw[jf]at h;exact h) (FD.sl (x.subs.map enc)) ak;have:=iN h;simpa using this
 have hsw:∀g∈x.subs,(enc g).Wf:=fun g hg=>oU (jh (by have h:=hx1;rw[jf]at h;exact h) (FD.sl (x.subs.map enc)) ak) _ (cR hg);unfold dt at hwl hsl;have kb:=Kp.mk @hbad;have kR:=Kp.mk hrest;have kW:=Kp.mk hlwf;have kS:=Kp.mk hsw;have kC:=Kp.mk hcut;clear hbad hrest hlwf hsw hst hx1 hcut hl1 hlen hwf hc hl hw;rcases Wu false x with⟨hk,hp⟩|⟨hk,hp⟩|⟨_,hop,_⟩|⟨hk,_,hp⟩|⟨hk,hp⟩|⟨hk,hp⟩|⟨hk,hk3,hk10,hk8,hk9,hp⟩;rotate_left 2
 ·exact Bool.noConfusion hop
 all_goals repeat'(first|refine gG.d (fun _=>?_) (fun _=>?_)|refine gG.i (fun _=>?_) (fun _=>?_)|refine rq ?_|simp only[go_sem,bE,EW,FP,FQ,TP,T5,Tryz.f40, *])
 all_goals try(exfalso;omega)
 all_goals try
  refine kb.out (by first
   |rw[pm hp,aF ae]
   |rw[pm hp,az ae,aF ae]
   |rw[pm hp,az ae,az ae,aF ae]
   |rw[pm hp,az ae,az ae,az ae,aF ⟨ae,by first|assumption|simp_all[bn]⟩]
   |rw[pm hp,az ae,az ae,az ae,az ae,aF ⟨ae,by assumption⟩]) ai
 all_goals
  have hN:jV false x d n=if x.words.all dI=false then 10 else 0:=by rw[pm hp,az ae,az ae,az ae,az (by first|omega|(rintro⟨_,h⟩;simp_all[bn])),az (by first|omega|(rintro⟨_,h⟩;simp_all))]
  have hs2:x.subs.length≤2:=by
   have h2:iU false x≤2:=by
    unfold iU lz;rw[az ak]
    repeat'(split<;>try decide)
   omega
  have hw0:((0:Nat):Int)=0:=rfl;have hw10:((10:Nat):Int)=10:=rfl
  refine cI hm wg 40000 (lst [19,148]) (ι:=Fu (m+1+1) x.words.length fun i c=>c=if(x.words.take i).all dI=true then 0 else 10)
   ⟨fun q=>⟨frL [(1,.fz (.b false)),(4,.ptr (40004,1) 0),(5,.arr (40148,g) 5 0 l.length),(6,eI n),(7,.ptr (40007,m) 0),(8,.ptr (40008,m+1) 0),
     (13,.fz (.i .i64 q.n)),(114,.fz (.sl (x.words.map enc))),(115,.fz (.i .i64 x.words.length)),(116,.fz (.i .i64 q.j))],
    hpL [((40007,m),some ⟨[eI x.kind,.fz (.s x.name.l),eS x.words,eS x.subs,eI d],true,false⟩),
     ((40008,m+1),some ⟨[.fz (.i .i64 x.kind),.fz (.s x.name.l),.fz (.sl (x.words.map enc)),.fz (.sl (x.subs.map enc))],true,false⟩),
     ((40004,1),some ⟨[.fz (.i .i64 0),.fz (.i .i64 0)],true,false⟩),((40148,g),some ⟨cells,false,false⟩)],q.m⟩,fun q=>x.words.length-q.j⟩
   ⟨0,0,m+1+1,ae,ae,ak⟩ ah ?_ ?_
  ·refine bF ?_ ?_ ?_<;>simp only[go_sem, *]
  rintro⟨i,c,m2,hi,hm2,hc⟩
  try simp only at hi hm2 hc
  rcases aA i x.words.length with h1|h1
  ·cases hnm:dI x.words[i]with
   |false=>
    repeat'(first|refine rq ?_|simp only[go_sem,h1,hnm,bn,bh,Tryz.f40])
    refine⟨⟨i+1,10,m2,ae,ae,by rw[Bu h1,hnm,eK];rfl⟩,af,?_⟩;refine bF ?_ ?_ ?_<;>simp only[go_sem,hw10]
   |true=>
    repeat'(first|refine rq ?_|simp only[go_sem,h1,hnm,bn,bh,Tryz.f40])
    refine⟨⟨i+1,c,m2,ae,ae,by rw[Bu h1,hnm,iR];exact hc⟩,af,?_⟩;refine bF ?_ ?_ ?_<;>simp only[go_sem]
  have h1':¬i<x.words.length:=ae
  rw[bV h1]at hc;cases hall:x.words.all dI with
  |false=>
   rw[hall]at hN hc;rw[aF rfl]at hN;rw[az ak]at hc;subst hc
   repeat'(first|refine rq ?_|simp only[go_sem,h1',hw10,Tryz.f40])
   exact kb.out hN ai
  |true=>
   rw[hall]at hN hc;rw[az ak]at hN;rw[aF rfl]at hc;subst hc;have hrest:=kR.out;rw[az (by rw[hN];simp)]at hrest
   repeat'(first|refine rq ?_|simp only[go_sem,h1',hw0,Tryz.f40])
   refine cI hm wg 40000 (lst [19,148]) (ι:={q:Uu // q.j≤x.subs.length∧q.g<q.m∧m+1<q.m∧q.cells.take ((mf l x.subs d q.j).length*5)=bA ((mf l x.subs d q.j).map o5)∧(mf l x.subs d q.j).length*5≤q.cells.length})
    ⟨fun q=>⟨frL [(1,.fz (.b false)),(4,.ptr (40004,1) 0),(5,.arr (40148,q.1.g) 5 0 (mf l x.subs d q.1.j).length),(6,eI n),(7,.ptr (40007,m) 0),(8,.ptr (40008,m+1) 0),(16,eI ((q.1.j:Int)-1))],
     hpL [((40007,m),some ⟨[eI x.kind,.fz (.s x.name.l),eS x.words,eS x.subs,eI d],true,false⟩),
      ((40008,m+1),some ⟨[.fz (.i .i64 x.kind),.fz (.s x.name.l),.fz (.sl (x.words.map enc)),.fz (.sl (x.subs.map enc))],true,false⟩),
      ((40004,1),some ⟨[.fz (.i .i64 0),.fz (.i .i64 0)],true,false⟩),((40148,q.1.g),some ⟨q.1.cells,false,false⟩)],q.1.m⟩,fun q=>q.1.j⟩
    ⟨⟨x.subs.length,cells,g,m2⟩,aI _,af,af,by simp only;rw[BX];exact kC.out,by simp only;rw[BX];omega⟩ ah ?_ ?_
   ·refine bF ?_ ?_ ?_<;>simp only[go_sem,BX]
   rintro⟨⟨j,cells2,g2,m3⟩,hj,hg2,hm3,hc2,hl2⟩
   try simp only at hj hg2 hm3 hc2 hl2
   rcases j with _|j
   ·repeat'(first|refine rq ?_|simp only[go_sem,Tryz.f40,hw0,Int.zero_sub,Int.reduceNeg,Int.reduceSub])
    refine⟨⟨⟨mf l x.subs d 0,cells2,g2,m3,n+1⟩,⟨hg2,hc2,hl2,af,af,by simp only;rw[I'];omega,fun a ha=>?_,?_⟩⟩,af,?_⟩
    ·rcases Yl ha with h|⟨h,h2,rfl⟩
     ·exact kW.out a h
     ·exact⟨kS.out _ h2,af,af⟩
    ·simp only;rw[Ym];exact hrest
    ·refine bF ?_ ?_ ?_<;>simp only[go_sem]
   ·have hps:=W4 (l:=l) (d:=d) (show j<x.subs.length by omega);have e2:((j:Int)+1-1)=(j:Int):=ae
    have hj2:j<x.subs.length:=ae
    have hpl:=I' (l:=l) (s:=x.subs) (d:=d) (j:=j+1)
    repeat'(first|refine rq ?_|refine rx ⟨ae,dZ ae ai⟩ ?_|simp only[go_sem,e2,hj2,bh,bE,bC,hc2,Tryz.f40])
    refine⟨⟨⟨j,bA ((mf l x.subs d (j+1)).map o5)++bA [o5 (x.subs[j],d+1)],m3,m3+1⟩,af,af,af,?_,?_⟩,af,?_⟩
    ·simp only;rw[hps,aE,Jp,aD,bU,bV]
     ·rfl
     ·rw[aD,BP,show(bA [o5 (x.subs[j],d+1)]).length=5 from rfl];omega
    ·simp only;rw[hps,aD,bU,aD,BP,show(bA [o5 (x.subs[j],d+1)]).length=5 from rfl];omega
    ·have hps2:(mf l x.subs d j).length=(mf l x.subs d (j+1)).length+1:=by rw[hps];simp
     refine bF ?_ ?_ ?_<;>simp only[go_sem,hps2,o5]
def Q19:Tbl:=Q18.add 40 (sp2 (fun(f:Abs.aH) op=>dB op f) fun _ op=>op=false)
attribute [go_sem] Q19
theorem Gm:b9 Tryz.prog G0 Q19:=f40
def Q20:Tbl:=Q19.add 17 (sp1 (fun(f:Abs.aH)=>dB false f) fun _=>True)
attribute [go_sem] Q20
theorem sX:b9 Tryz.prog G0 Q20:=by
 refine iD GP Gm fun f _ hf=>?_;refine rv (N:=5) hm Gm 17000 qWi GP Tryz.func17 rfl ?_
 repeat'(first|refine rq ?_|simp only[go_sem,Tryz.f17])
def xK (n:Int):Str:=⟨Lib.itoa n⟩
def GA:Nat→List FD:=fun g=>if g=0 then[.i .i64 0,.i .i64 0]else if g=1 then Lib.pow10Tab.map (.i .u64)else[]
theorem C3:Tryz.prog.globalNamed "internal/strconv.uint64pow10" =some 1:=ah
def R1:Tbl:=Q20.add 62 (sp1 xK fun n=>0≤n∧n≤1000000000000)
attribute [go_sem] R1
theorem hR1:b9 Tryz.prog GA R1:=by refine iD GF (s9 sX) fun n hn _=>?_;refine jl (XM GF C3 rfl Tryz.strconv_Itoa hn.1 hn.2) ?_;rintro d H m ⟨rfl,_,_⟩;rfl
theorem wP (n:Nat):(xK (n:Int)).l=fV n:=O0 n
def HHk (acc:List Str)(g:Nat):List (Abs.Id×Option O):=
  [((80003,1),some ⟨[.arr (106024,g) 1 0 acc.length],true,false⟩),
   ((80004,2),some ⟨[.fn 106 [.ptr (80003,1) 0,.ptr (80004,2) 0]],true,false⟩),
   ((106024,g),some ⟨bA (acc.map enc),false,acc.isEmpty⟩)]
theorem zY {f:Abs.aH}{bd:List Str}:cst f bd=f.words.filter (fun w=>decide (w∉bd))++ef f.subs (if isQ f.kind then bd++[f.name]else bd):=by cases f;rw[cst];rfl
theorem Hz {ws bd:List Str}(i:Nat):((ws.take i).filter (fun w=>decide (w∉bd))).length≤(ws.filter (fun w=>decide (w∉bd))).length:=
 (List.Sublist.filter _ (List.take_sublist i ws)).length_le
theorem HB {ws bd:List Str}{i:Nat}(h:i<ws.length):(ws.take (i+1)).filter (fun w=>decide (w∉bd))=(ws.take i).filter (fun w=>decide (w∉bd))++if ws[i]∈bd then[]else[ws[i]]:=by
 rw[aB h,List.filter_append];congr 1;by_cases hb:ws[i]∈bd
 ·simp[hb]
 ·simp[hb]
theorem Jq {xs:List FD}{l:List UInt8}:bA (xs++[FD.s l])=bA xs++[D.fz (FD.s l)]:=by simp[bA,FD.cells]
theorem HK {fs:List Abs.aH}{bd:List Str}{j:Nat}(h:j<fs.length):ef (fs.take (j+1)) bd=ef (fs.take j) bd++cst fs[j] bd:=by rw[aB h,CF,ef,ef,bP]
theorem HQ {fs:List Abs.aH}{bd:List Str}(j:Nat):(ef (fs.take j) bd).length≤(ef fs bd).length:=by have h:=CF bd (fs.take j) (fs.drop j);rw[cQ]at h;rw[h,aD];omega
theorem f106:∀(k:Nat) (f:Abs.aH) (bd acc:List Str) (g n:Nat) (X:bR),f.size≤k→(enc f).Wf→g<n→2<n→acc.length+(cst f bd).length≤1000000→bd.length+f.size≤1000000→
  (∀id o,X id=some o→id.2<n∧id.1≠80003∧id.1≠80004∧id.1≠106024)→
  cS Tryz.prog GA 106 [.fz (enc f),.fz (enc bd),.ptr (80003,1) 0,.ptr (80004,2) 0] (hpX (HHk acc g) X) n
   (fun d' H' n'=>d'= .tup []∧n≤n'∧(∃g',g'<n'∧iO H' (HHk (acc++cst f bd) g'))∧∀id o,X id=some o→H' id=some o):=by
 intro k;induction k with
 |zero=>intro f bd acc g n X hs;have:=f.size_pos;omega
 |succ k ih=>
  intro f bd acc g n X hs hw hg hn hlen hbl hX;obtain⟨Q,hQ⟩:∃Q:D→bR→Nat→Prop,Q=(fun d' H' n'=>d'= .tup []∧n≤n'∧(∃g',g'<n'∧iO H' (HHk (acc++cst f bd) g'))∧∀id o,X id=some o→H' id=some o):=⟨_,rfl⟩;rw[←hQ];have hX':∀{l:List (Abs.Id×Option O)} (id o),X id=some o→(id.2<n∧id.1≠80003∧id.1≠80004∧id.1≠106024→rQ id l)→hpX l X id=some o:=fun id o h1 h2=>(oL (h2 (hX id o h1))).trans h1;have hwl:f.words.length≤dt:=by have h:=jh qQf (FD.sl (f.words.map enc)) ak;have:=iN h;simpa using this
  have hsl:f.subs.length≤dt:=by have h:=jh qQf (FD.sl (f.subs.map enc)) ak;have:=iN h;simpa using this
  have hsw:∀g∈f.subs,(enc g).Wf:=fun g hg=>oU (jh qQf (FD.sl (f.subs.map enc)) ak) _ (cR hg);have hss:∀g∈f.subs,g.size≤k∧g.size+1≤f.size:=fun g hg=>by have:=aH.size_sub hg;omega
  unfold dt at hwl hsl;rw[zY,aD]at hlen;obtain⟨A,hA⟩:∃A:Nat→List Str,A=fun i=>acc++(f.words.take i).filter (fun w=>decide (w∉bd)):=⟨_,rfl⟩;have hA0:A 0=acc:=by rw[hA];simp
  have hAl:∀i,(A i).length≤acc.length+(f.words.filter (fun w=>decide (w∉bd))).length:=fun i=>by rw[hA];simp only[aD];have:=@Hz f.words bd i;omega
  have hAs:∀i (h:i<f.words.length),A (i+1)=A i++if f.words[i]∈bd then[]else[f.words[i]]:=fun i h=>by rw[hA];simp only[HB h,bu]
  have hAe:A f.words.length=acc++f.words.filter (fun w=>decide (w∉bd)):=by rw[hA];simp only[aJ]
  have kA:=Kp.mk hAl;have kB:=Kp.mk hAs;have kC:=Kp.mk hAe;clear hA hAl hAs hAe;have kX:=Kp.mk @hX';have kQ:=Kp.mk hQ;have kI:=Kp.mk ih;have kS:=Kp.mk hsw;have kZ:=Kp.mk hss;have kx:=Kp.mk hX;clear hX' hQ ih hsw hss hX;refine rv (N:=50) hm hR1 106000 (lst [24]) FW Tryz.func106 rfl ?_
  repeat'(first|refine rq ?_|simp only[go_sem,HHk,Tryz.f106, *])
  refine cI hm hR1 106000 (lst [24]) (ι:=jL f.words.length (n+1) fun _=>True)
   ⟨fun q=>⟨frL [(1,eS bd),(2,.ptr (80003,1) 0),(3,.ptr (80004,2) 0),(4,.ptr (106004,n) 0),(11,eS f.words),(12,eI f.words.length),(13,eI q.i)],
    hpX (((106004,n),some ⟨[.fz (.i .i64 f.kind),.fz (.s f.name.l),.fz (.sl (f.words.map enc)),.fz (.sl (f.subs.map enc))],true,false⟩)::HHk (A q.i) q.g) X,q.m⟩,fun q=>f.words.length-q.i⟩
   ⟨0,g,n+1,ae,ae,ae,trivial⟩ ah ?_ ?_
  ·refine gT ?_ ?_ (fun id o ho=>?_) ?_
   ·simp only[go_sem]
   ·simp only[go_sem,HHk,hA0]
   ·refine kX.out id o ho fun h1=>?_
    ((repeat'(first|exact trivial|apply au))<;>(rintro rfl;simp only at h1;omega))
   ·simp only[go_sem]
  rintro⟨i,g1,m1,hi,hg1,hm1,_⟩
  try simp only at hi hg1 hm1
  rcases aA i f.words.length with h1|h1
  ·have hfl:=kB.out i h1;have hl1:=kA.out i;have hl2:=kA.out (i+1);by_cases hin:f.words[i]∈bd
   ·rw[aF hin,bP]at hfl
    repeat'(first|refine rq ?_|simp only[go_sem,HHk,h1,hin,bn,bh,Tryz.f106])
    refine⟨⟨i+1,g1,m1,ae,ae,ae,trivial⟩,af,?_⟩;refine gT ?_ ?_ (fun id o ho=>?_) ?_
    ·simp only[go_sem]
    ·simp only[go_sem,HHk,hfl]
    ·refine kX.out id o ho fun h1=>?_
     ((repeat'(first|exact trivial|apply au))<;>(rintro rfl;simp only at h1;omega))
    ·simp only[go_sem]
   ·rw[az hin]at hfl;have hl3:(bA ((A i).map enc)).length=(A i).length:=by rw[JZ (tt (f:=enc) (k:=1) (fun _=>rfl) _),aG]
    repeat'(first|refine rq ?_|refine rx (dZ ae ai) ?_|simp only[go_sem,HHk,h1,hin,bn,bh,Tryz.f106])
    refine⟨⟨i+1,m1,m1+1,ae,ae,ae,trivial⟩,af,?_⟩;refine gT ?_ ?_ (fun id o ho=>?_) ?_
    ·simp only[go_sem]
    ·simp only[go_sem,HHk,hfl,Jq]
    ·refine kX.out id o ho fun h1=>?_
     ((repeat'(first|exact trivial|apply au))<;>(rintro rfl;simp only at h1;omega))
    ·simp only[go_sem]
  ·obtain rfl:i=f.words.length:=ae
   have hAe:=kC.out;obtain⟨bd2,hbd⟩:∃bd2,bd2=if isQ f.kind then bd++[f.name]else bd:=⟨_,rfl⟩
   rw[←hbd]at hlen;obtain⟨B,hB⟩:∃B:Nat→List Str,B=fun j=>A f.words.length++ef (f.subs.take j) bd2:=⟨_,rfl⟩;have hB0:B 0=A f.words.length:=by rw[hB];simp[ef]
   have hBs:∀j (h:j<f.subs.length),B (j+1)=B j++cst f.subs[j] bd2:=fun j h=>by rw[hB];simp only[HK h,bu]
   have hBl:∀j,(B j).length≤1000000:=fun j=>by rw[hB,aD,hAe,aD];have:=@HQ f.subs bd2 j;omega
   have hBe:B f.subs.length=acc++cst f bd:=by rw[hB,zY,←hbd,hAe];simp only[aJ,bu]
   have hb2:bd2.length≤bd.length+1:=by
    rw[hbd];split
    ·simp
    ·omega
   have kBs:=Kp.mk hBs;have kBl:=Kp.mk hBl;have kBe:=Kp.mk hBe;clear hBs hBl hBe hB hAe;rcases Decidable.em (isQ f.kind)with hq|hq
   all_goals
    (first|rw[aF hq]at hbd|rw[az hq]at hbd)
    unfold isQ at hq
    repeat'(first|refine rq ?_|refine rx (dZ ae ai) ?_|simp only[go_sem,HHk,hq,aC,bn,Tryz.f106])
    refine cI hm hR1 106000 (lst [24]) (ι:=jL f.subs.length (n+1) fun _=>True)
     ⟨fun q=>⟨frL [(1,eS bd2),(2,.ptr (80003,1) 0),(3,.ptr (80004,2) 0),(39,eS f.subs),(40,eI f.subs.length),(41,eI q.i)],hpX (HHk (B q.i) q.g) X,q.m⟩,fun q=>f.subs.length-q.i⟩
     ⟨0,g1,m1,ae,ae,ae,trivial⟩ ah ?_ ?_
    ·refine gT ?_ ?_ (fun id o ho=>?_) ?_
     ·simp only[go_sem,hbd,aE]
     ·simp only[go_sem,HHk,hB0]
     ·refine kX.out id o ho fun h1=>?_
      ((repeat'(first|exact trivial|apply au))<;>(rintro rfl;simp only at h1;omega))
     ·simp only[go_sem]
    rintro⟨j,g2,m2,hj,hg2,hm2,_⟩
    try simp only at hj hg2 hm2
    rcases aA j f.subs.length with h2|h2
    ·have hmem:=aT h2;have hBj:=kBs.out j h2;have hl4:=kBl.out (j+1);have hz:=kZ.out _ hmem;rw[hBj,aD]at hl4;have ih2:=kI.out f.subs[j] bd2 (B j) g2 (m2+1) X hz.1 (kS.out _ hmem) ae ae hl4 ae (fun id o ho=>by have:=kx.out id o ho;omega);rw[jf]at ih2
     repeat'(first|refine rq ?_|simp only[go_sem,HHk,h2,bh,Tryz.f106])
     refine dJ.i (qw rfl (qo qQl (by simp only[go_sem,HHk]) (fun id o ho=>?_) (aI _) (jl ih2 ?_)))
     ·refine kX.out id o ho fun h1=>?_
      ((repeat'(first|exact trivial|apply au))<;>(rintro rfl;simp only at h1;omega))
     rintro d' H' n' ⟨rfl,e1,⟨g3,hg3,e2⟩,e3⟩;rw[←hBj]at e2;simp only[go_sem,HHk]at e2;obtain⟨b1,b2,b3⟩:=e2;rw[show H'=hpX [] H' from rfl]
     repeat'(first|refine rq ?_|simp only[go_sem,HHk,h2,Tryz.f106])
     refine⟨⟨j+1,g3,n',ae,ae,ae,trivial⟩,af,?_⟩;refine gT ?_ ?_ (fun id o ho=>?_) ?_
     ·simp only[go_sem]
     ·simp only[go_sem,HHk,b1,b2,b3]
     ·exact e3 id o ho
     ·simp only[go_sem]
    ·obtain rfl:j=f.subs.length:=ae
     repeat'(first|refine rq ?_|simp only[go_sem,HHk,aC,Tryz.f106])
     rw[kQ.out];refine⟨rfl,ae,⟨g2,ae,?_⟩,fun id o ho=>kX.out id o ho fun h1=>?_⟩
     ·rw[←kBe.out];simp only[go_sem,HHk]
     ·((repeat'(first|exact trivial|apply au))<;>(rintro rfl;simp only at h1;omega))
def kv (l:List Str):List Str:=(oC (l.map (·.l))).map Str.mk
def lC (l:List Str):List Str:=(lD (l.map (·.l))).map Str.mk
theorem xj (l:List (List UInt8)):(l.map Str.mk).map (·.l)=l:=by rw[bX,show((·.l)∘Str.mk:List UInt8→List UInt8)=id from rfl,gK]
theorem C5 (f:Abs.aH):eR f=lC (kv (cst f [])):=by unfold eR lC kv;rw[xj]
theorem wI (l:List Str):bA (l.map enc)=nO (l.map (·.l)):=by rw[ia,nO,bX];rfl
theorem yv (l:List (List UInt8)):nO l=bA ((l.map Str.mk).map enc):=by rw[wI,xj]
theorem zA {H:bR}{id:Abs.Id}{o:Option O}:cp H id o=hpX [(id,o)] H:=rfl
theorem M9 {H:bR}{id:Abs.Id}{l:List Str}{bx vt:Bool}{n:Nat}{R:D→bR→Nat→Prop}(ho:H id=some ⟨bA (l.map enc),bx,vt⟩)
  (hR:R (.tup []) (hpX [(id,some ⟨bA ((kv l).map enc),bx,vt⟩)] H) n):cS Tryz.prog GA 81 [.arr id 1 0 l.length] H n R:=by
 rw[wI]at ho;have h:=JC (G:=GA) (n:=n) Hh Tryz.slices_Sort_string Tryz.slices_Sort_string_none ho;rw[aG]at h;refine jl h ?_;rintro d H' n' ⟨rfl,rfl,rfl⟩;rw[zA,yv];exact hR
theorem LW {H:bR}{id:Abs.Id}{l:List Str}{bx vt:Bool}{n:Nat}{R:D→bR→Nat→Prop}(ho:H id=some ⟨bA (l.map enc),bx,vt⟩)
  (hR:R (.arr id 1 0 (lC l).length) (hpX [(id,some ⟨bA ((lC l).map enc),bx,vt⟩)] H) n):cS Tryz.prog GA 82 [.arr id 1 0 l.length] H n R:=by
 rw[wI]at ho;have h:=HH (G:=GA) (n:=n) Hi Tryz.slices_Compact_string Tryz.slices_Compact_string_empty ho;rw[aG]at h;refine jl h ?_;rintro d H' n' ⟨rfl,rfl,rfl⟩;rw[zA,yv,show(lD (l.map (·.l))).length=(lC l).length by unfold lC;rw[aG]];exact hR
theorem sj (l:List Str):(kv l).length=l.length:=by unfold kv;rw[aG,uP,aG]
theorem f80 {f:Abs.aH}(hw:(enc f).Wf)(hl:(cst f []).length≤1000000)(hs:f.size≤1000000):cS Tryz.prog GA 80 [.fz (enc f)] (hpL []) 0
  (fun d H n=>∃g,g<n∧d= .arr (106024,g) 1 0 (eR f).length∧H (106024,g)=some ⟨bA ((eR f).map enc),false,(cst f []).isEmpty⟩):=by
 obtain⟨Q,hQ⟩:∃Q:D→bR→Nat→Prop,Q=(fun d H n=>∃g,g<n∧d= .arr (106024,g) 1 0 (eR f).length∧H (106024,g)=some ⟨bA ((eR f).map enc),false,(cst f []).isEmpty⟩):=⟨_,rfl⟩;rw[←hQ];refine rv (N:=13) hm hR1 80000 qWi yj Tryz.func80 rfl ?_;have h:=f106 f.size f [] [] 3 4 (fun _=>none) (aI _) hw ae ae (by simpa using hl) (by simpa using hs) (fun id o ho=>by cases ho);rw[jf]at h
 repeat'(first|refine rq ?_|simp only[go_sem,Tryz.f80])
 refine dJ.i (qw rfl (Dq (args':=[.fz (.agg [.i .i64 f.kind,.s f.name.l,.sl (f.words.map enc),.sl (f.subs.map enc)]),.fz (enc ([]:List Str)),.ptr (80003,1) 0,.ptr (80004,2) 0])
  (hl:=HHk [] 3) (n':=4) [] [(106024,3)] [] rfl ?_ ?_ ?_ ?_ ?_ ?_))
 case _=>omega
 case _=>simp only[go_sem]
 case _=>simp only[go_sem,HHk];first|done|rfl
 case _=>simp only[go_sem,HHk];first|done|rfl
 case _=>simp only[go_sem];first|done|rfl
 rw[show hpL (HHk [] 3)=hpX (HHk [] 3) (fun _=>none)from rfl];refine jl h ?_;rintro d' H' n' ⟨rfl,e1,⟨g,hg,e2⟩,_⟩;rw[aK]at e2;obtain⟨C,hC⟩:∃C,C=cst f []:=⟨_,rfl⟩;rw[←hC]at e2;rw[C5,←hC]at hQ;simp only[go_sem,HHk]at e2;obtain⟨b1,b2,b3⟩:=e2;rw[show H'=hpX [] H' from rfl]
 repeat'(first|refine rq ?_|simp only[go_sem,b1,b2,b3,Tryz.f80])
 refine dJ.i (M9 (l:=C) (bx:=false) (vt:=C.isEmpty) (by simp only[go_sem,b3]) ?_);rw[←sj C]at b1
 repeat'(first|refine rq ?_|simp only[go_sem,b1,b2,b3,Tryz.f80])
 refine dJ.i (LW (l:=kv C) (bx:=false) (vt:=C.isEmpty) aj ?_)
 repeat'(first|refine rq ?_|simp only[go_sem,b1,b2,b3,Tryz.f80])
 rw[hQ];exact⟨g,hg,aj,aj⟩
def HHn (k:Nat)(used:List Str)(ga gb:Nat):List (Abs.Id×Option O):=
 [((76010,ga),some ⟨[.fz (.i .i64 k)],true,false⟩),((76005,gb),some ⟨[.fz (.sl (used.map enc))],true,false⟩)]
structure Ts (used:List Str)(k:Nat) where
 j:Nat
 h1:k≤j
 h2:j≤k+used.length
 h3:iy used k=iy used j
theorem f101 {used:List Str}{k n ga gb:Nat}{X:bR}(_:ga<n)(_:gb<n)(hk:k+used.length≤999999999999)
  (hX:∀id o,X id=some o→id.2<n∧id.1≠76010∧id.1≠76005):
  cS Tryz.prog GA 101 [.ptr (76010,ga) 0,.ptr (76005,gb) 0] (hpX (HHn k used ga gb) X) n
   (fun d' H' n'=>d'= .fz (enc (vg used k).1)∧n≤n'∧iO H' (HHn (vg used k).2 used ga gb)∧∀id o,X id=some o→H' id=some o):=by
 obtain⟨Q,hQ⟩:∃Q:D→bR→Nat→Prop,Q=(fun d' H' n'=>d'= .fz (enc (vg used k).1)∧n≤n'∧iO H' (HHn (vg used k).2 used ga gb)∧∀id o,X id=some o→H' id=some o):=⟨_,rfl⟩;rw[←hQ];have hX':∀{l:List (Abs.Id×Option O)} (id o),X id=some o→(id.2<n∧id.1≠76010∧id.1≠76005→rQ id l)→hpX l X id=some o:=fun id o h1 h2=>(oL (h2 (hX id o h1))).trans h1;have kX:=Kp.mk @hX';have kQ:=Kp.mk hQ;clear hX' hQ hX;refine rv (N:=14) hm hR1 101000 qWi TR Tryz.func101 rfl ?_
 repeat'(first|refine rq ?_|simp only[go_sem,HHn,Tryz.f101])
 refine cI hm hR1 101000 qWi (ι:=Ts used k)
  ⟨fun q=>⟨frL [(0,.ptr (76010,ga) 0),(1,.ptr (76005,gb) 0)],hpX (HHn q.j used ga gb) X,n⟩,fun q=>k+used.length+1-q.j⟩
  ⟨k,ae,ae,rfl⟩ ah ?_ ?_
 ·refine gT ?_ ?_ (fun id o ho=>?_) ?_
  ·simp only[go_sem]
  ·simp only[go_sem,HHn]
  ·refine kX.out id o ho fun h1=>?_
   ((repeat'(first|exact trivial|apply au))<;>(rintro rfl;simp only at h1;omega))
  ·simp only[go_sem]
 rintro⟨j,h1,h2,h3⟩
 try simp only at h1 h2 h3
 have hs:=mS used k;have hdl:=ta j;by_cases hin:gA j∈used
 ·have hin':(⟨118::fV j⟩:Str)∈used:=hin;have h4:=MW hin;have h5:=(mS used (j+1)).1
  repeat'(first|refine rq ?_|refine rx ⟨ae,ae⟩ ?_|simp only[go_sem,HHn,hin',wP,Tryz.f101])
  refine⟨⟨j+1,ae,ae,by rw[h3,h4]⟩,af,?_⟩;refine gT ?_ ?_ (fun id o ho=>?_) ?_
  ·simp only[go_sem]
  ·simp only[go_sem,HHn,gS,Int.cast_ofNat_Int]
  ·refine kX.out id o ho fun h1=>?_
   ((repeat'(first|exact trivial|apply au))<;>(rintro rfl;simp only at h1;omega))
  ·simp only[go_sem]
 ·have hin':(⟨118::fV j⟩:Str)∉used:=hin;have h4:=K0 hin
  repeat'(first|refine rq ?_|refine rx ⟨ae,ae⟩ ?_|simp only[go_sem,HHn,hin',wP,Tryz.f101])
  rw[kQ.out];have e1:vg used k=(gA j,j+1):=by unfold vg;rw[h3,h4]
  rw[e1];refine⟨rfl,aI _,by simp only[go_sem,HHn,gS,Int.cast_ofNat_Int],fun id o ho=>kX.out id o ho fun h1=>?_⟩
  ((repeat'(first|exact trivial|apply au))<;>(rintro rfl;simp only at h1;omega))
theorem gr {G:Nat→List FD}{N:Nat}{l:List (Nat×D)}{H:bR}{n:Nat}{id:Abs.Id}{t:Nat}{ys:List FD}{b:Bool}(ho:H id=some ⟨ys.map .fz,b,false⟩)(hs:frL l t= .ptr id 0):
  gH G N ⟨frL l,H,n⟩ ⟨frL ((t,.rp ys)::l),cp H id none,n⟩:=zF (st:=⟨frL l,H,n⟩) ho hs
theorem Mh {G:Nat→List FD}{d r:D}{H:bR}{m:Nat}(h:D.val d=some r):gH G 1 ⟨frL [(0,d)],H,m⟩ ⟨frL [(0,r)],H,m⟩:=by
 intro a w L F hr;refine⟨L,F,⟨hr.ok,hr.size,fun t=>?_,hr.nd⟩,dH.refl _ _ _ _ _⟩;have:=hr.fr t;simp only[frL]at this ⊢;by_cases e:t=0
 ·rw[aF e]at this ⊢;exact this.val h
 ·rw[az e]at this ⊢;exact this
def q7 (p:Nat):Int:=(p:Int)-1
theorem Lh:q7 0= -1:=rfl
theorem y4 (p:Nat):q7 (p+1)=(p:Int):=by unfold q7;omega
structure Ft (env:List cX)(w:Str) where
 p:Nat
 hp:p≤env.length
 h:lkp env w=jR env w p
structure xR (len n0 lo:Nat) where
 i:Nat
 g:Nat
 m:Nat
 hi:i≤len
 hg:g<m
 hm:n0≤m
 hl:lo≤g
structure zQH (n len:Nat)(p:Nat→Nat→Prop) where
 i:Nat
 g:Nat
 k:Nat
 m:Nat
 hi:i≤len
 hg:g<m
 hm:n≤m
 hp:p i k
theorem wK:∀{fs:List Abs.aH} {j:Nat} (h:j<fs.length),aH.sizes (fs.take j)+fs[j].size≤aH.sizes fs
 |f::fs,0,h=>by simp only[bv,aH.sizes,List.getElem_cons_zero];omega
 |f::fs,j+1,h=>by have:=wK (fs:=fs) (j:=j) qQh;simp only[bm,aH.sizes,jm];omega
theorem EQ {g:Nat→Str×Nat}{f:Abs.aH}{env:List cX}{n:Nat}:ren g f env n=if isQ f.kind then(.mk f.kind (g n).1 (f.words.map (lkp env)) (dj g f.subs (env++[⟨f.name,(g n).1⟩]) (g n).2).1,(dj g f.subs (env++[⟨f.name,(g n).1⟩]) (g n).2).2)
  else(.mk f.kind f.name (f.words.map (lkp env)) (dj g f.subs env n).1,(dj g f.subs env n).2):=by cases f;rw[ren];rfl
def Dx:Tv:=(.q 0 (.q 2 (.q 3 (.q 4 (.br [(1,(.br [(5,(.q 6 (.br [(7,(.q 8 (.br [(9,.leaf)])))])))])),(5,(.q 1 (.q 6 (.br [(7,(.q 8 (.br [(9,.leaf)])))]))))])))))
set_option maxHeartbeats 8000000 in
theorem f102 {used:List Str}{ga gb:Nat}:∀(s:Nat) (f:Abs.aH) (env:List cX) (k n:Nat) (X:bR),f.size≤s→(enc f).Wf→f.fit=true→ga<n→gb<n→k+(used.length+1)*f.size≤999999999999→env.length+f.size≤1000000→
    (∀id o,X id=some o→id.2<n∧id.1≠76010∧id.1≠76005)→
    cS Tryz.prog GA 102 [.fz (enc f),.fz (enc env),.fn 101 [.ptr (76010,ga) 0,.ptr (76005,gb) 0]] (hpX (HHn k used ga gb) X) n
      (fun d' H' n'=>d'= .fz (enc (ren (vg used) f env k).1)∧n≤n'∧iO H' (HHn (ren (vg used) f env k).2 used ga gb)∧∀id o,X id=some o→H' id=some o):=by
  intro s;induction s with
  |zero=>intro f env k n X hs;have:=f.size_pos;omega
  |succ s ih=>
    intro f env k n X hs hw hfit hga hgb hk hel hX;obtain⟨Q,hQ⟩:∃Q:D→bR→Nat→Prop,Q=(fun d' H' n'=>d'= .fz (enc (ren (vg used) f env k).1)∧n≤n'∧iO H' (HHn (ren (vg used) f env k).2 used ga gb)∧∀id o,X id=some o→H' id=some o):=⟨_,rfl⟩;obtain⟨QQ,hQQ⟩:∃QQ:D→bR→Nat→Prop,QQ=(fun d' H' n'=>D.val d'=some (.fz (enc (ren (vg used) f env k).1))∧n≤n'∧iO H' (HHn (ren (vg used) f env k).2 used ga gb)∧∀id o,X id=some o→H' id=some o):=⟨_,rfl⟩;have hfin:∀d H m,QQ d H m→∃d' H' n',gH GA 1 ⟨frL [(0,d)],H,m⟩ ⟨frL [(0,d')],H',n'⟩∧Q d' H' n':=by rw[hQQ,hQ];rintro d H m ⟨h1,h2,h3,h4⟩;exact⟨_,H,m,Mh h1,rfl,h2,h3,h4⟩
    rw[←hQ];refine lj (Q:=QQ) ?_ hfin;clear hfin hQ;have hX':∀{l:List (Abs.Id×Option O)} (id o),X id=some o→(id.2<n∧id.1≠76010∧id.1≠76005→rQ id l)→hpX l X id=some o:=fun id o h1 h2=>(oL (h2 (hX id o h1))).trans h1;obtain⟨hwl,hsl,hfs⟩:=aH.fit_eq hfit;have hsw:∀g∈f.subs,(enc g).Wf:=fun g hg=>oU (jh qQf (FD.sl (f.subs.map enc)) ak) _ (cR hg);have hss:∀g∈f.subs,g.size≤s∧g.fit=true:=fun g hg=>⟨qQn,aH.fits_mem hfs hg⟩;have hszs:f.size=aH.sizes f.subs+1:=by cases f;rw[aH.size];rfl
    have hreq:=@EQ (vg used) f env k;have kX:=Kp.mk @hX';have kQ:=Kp.mk hQQ;have kI:=Kp.mk ih;have kS:=Kp.mk hsw;have kZ:=Kp.mk hss;have kx:=Kp.mk hX;have kR:=Kp.mk hreq;clear hX' hQQ ih hsw hss hX hfs hreq hw hfit;refine rv (N:=87) hm hR1 102000 qW8 TS Tryz.func102 rfl ?_
    repeat'(first|refine rq ?_|simp only[go_sem,HHn,Tryz.f102])
    refine cI hm hR1 102000 qW8 (ι:=xR f.words.length (n+5) n)
      ⟨fun q=>⟨frL [(1,eS env),(2,.fn 101 [.ptr (76010,ga) 0,.ptr (76005,gb) 0]),(3,.ptr (102003,n) 0),(6,.ptr (102006,n+1) 0),(7,.ptr (102007,n+1+1) 0),
          (19,.fz (.sl (f.words.map enc))),(20,.fz (.i .i64 f.words.length)),(21,.fz (.i .i64 q.i))],
        hpX ([((102003,n),some ⟨[.fz (.i .i64 f.kind),.fz (.s f.name.l),.fz (.sl (f.words.map enc)),.fz (.sl (f.subs.map enc))],true,false⟩),((102006,n+1),some ⟨[.fz (.i .i64 0),.fz (.s []),.full [],.full []],true,false⟩),
          ((102007,n+1+1),some ⟨[.fz (.i .i64 f.kind),.fz (.s f.name.l),.ow (102048,q.g) 1 (((f.words.take q.i).map (lkp env)).map enc),.ow (102083,n+1+1+1) 4 []],true,false⟩),
          ((102048,q.g),some tok),((102083,n+1+1+1),some tok)]++HHn k used ga gb) X,q.m⟩,fun q=>f.words.length-q.i⟩
      ⟨0,n+1+1+1+1,n+1+1+1+1+1,ae,ae,ae,ae⟩ ah ?_ ?_
    · refine pj (yB 102083) (pj (yB 102048) (pj (yA (id:=(102007,n+1+1)) (id2:=(102048,n+1+1+1+1)) (es:=1) (k:=2) (xs:=[]) (b:=true) qQp ak qQi af)
        (pj (yA (id:=(102007,n+1+1)) (id2:=(102083,n+1+1+1)) (es:=4) (k:=3) (xs:=[]) (b:=true) qQp ak qQi af) ?_)))
      refine gT ?_ ?_ (fun id o ho=>?_) ?_
      · simp only[go_sem]
      · simp only[go_sem,HHn]
      · refine kX.out id o ho fun h1=>?_
        ((repeat'(first|exact trivial|apply au))<;>(rintro rfl;simp only at h1;omega))
      · simp only[go_sem]
    rintro⟨i,g1,m1,hi,hg1,hm1,hgl⟩
    try simp only at hi hg1 hm1 hgl
    rcases aA i f.words.length with h1|h1
    · obtain⟨w,hwi⟩:∃w,f.words[i]=w:=⟨_,rfl⟩;have e3:=aB h1;rw[hwi]at e3;have e4:((f.words.take (i+1)).map (lkp env))=((f.words.take i).map (lkp env))++[lkp env w]:=by rw[e3,aE];rfl
      have e5:((f.words.take i).map (lkp env)).length=i:=by rw[aG,aX];omega
      obtain⟨ws,hws⟩:∃ws,(f.words.take i).map (lkp env)=ws:=⟨_,rfl⟩;rw[hws]at e4 e5;obtain⟨v,hv⟩:∃v,lkp env w=v:=⟨_,rfl⟩;rw[hv]at e4;have k4:=Kp.mk e4;clear e4 e3
      repeat'(first|refine rq ?_|simp only[go_sem,HHn,h1,hwi,hws,bn,bh,Tryz.f102])
      refine cI hm hR1 102000 qW8 (ι:=Ft env w)
        ⟨fun q=>⟨frL [(1,eS env),(2,.fn 101 [.ptr (76010,ga) 0,.ptr (76005,gb) 0]),(3,.ptr (102003,n) 0),(6,.ptr (102006,n+1) 0),(7,.ptr (102007,n+1+1) 0),
            (9,.fz (.s w.l)),(10,.fz (.i .i64 (q7 q.p))),(19,.fz (.sl (f.words.map enc))),(20,.fz (.i .i64 f.words.length)),(21,.fz (.i .i64 i))],
          hpX ([((102003,n),some ⟨[.fz (.i .i64 f.kind),.fz (.s f.name.l),.fz (.sl (f.words.map enc)),.fz (.sl (f.subs.map enc))],true,false⟩),((102006,n+1),some ⟨[.fz (.i .i64 0),.fz (.s []),.full [],.full []],true,false⟩),
            ((102007,n+1+1),some ⟨[.fz (.i .i64 f.kind),.fz (.s f.name.l),.ow (102048,g1) 1 (ws.map enc),.ow (102083,n+1+1+1) 4 []],true,false⟩),
            ((102048,g1),some tok),((102083,n+1+1+1),some tok)]++HHn k used ga gb) X,m1⟩,fun q=>q.p⟩
        ⟨env.length,aI _,rfl⟩ ah ?_ ?_
      · refine gT ?_ ?_ (fun id o ho=>?_) ?_
        · simp only[go_sem,q7]
        · simp only[go_sem,HHn]
        · refine kX.out id o ho fun h1=>?_
          ((repeat'(first|exact trivial|apply au))<;>(rintro rfl;simp only at h1;omega))
        · simp only[go_sem]
      rintro⟨p,hp,hl⟩
      try simp only at hp hl
      cases p with
      |zero=>
        have hvw:v=w:=by rw[←hv,hl,jR]
        repeat'(first|refine rq ?_|refine rx (dZ ae ai) ?_|refine rq ?_|simp only[go_sem,HHn,h1,hwi,Lh,Tryz.f102])
        refine⟨⟨i+1,m1,m1+1,ae,ae,ae,ae⟩,af,?_⟩;refine gT ?_ ?_ (fun id o ho=>?_) ?_
        · simp only[go_sem]
        · simp only[go_sem,HHn,k4.out,aE,hvw]
        · refine kX.out id o ho fun h1=>?_
          ((repeat'(first|exact trivial|apply au))<;>(rintro rfl;simp only at h1;omega))
        · simp only[go_sem]
      |succ p=>
        rw[jR]at hl;have hpg:env.getD p default=env[p]:=by rw[av,ay ae,bD]
        rw[hpg]at hl;have hp':p<env.length:=ae
        by_cases he:env[p].fr=w
        · rw[aF he,hv]at hl;have he':env[p].fr.l=w.l:=by rw[he]
          repeat'(first|refine rq ?_|refine rx (dZ ae ai) ?_|refine rq ?_|simp only[go_sem,HHn,h1,hp',he',hwi,y4,bh,Tryz.f102])
          refine⟨⟨i+1,m1,m1+1,ae,ae,ae,ae⟩,af,?_⟩;refine gT ?_ ?_ (fun id o ho=>?_) ?_
          · simp only[go_sem]
          · simp only[go_sem,HHn,k4.out,aE,hl]
          · refine kX.out id o ho fun h1=>?_
            ((repeat'(first|exact trivial|apply au))<;>(rintro rfl;simp only at h1;omega))
          · simp only[go_sem]
        · rw[az he]at hl;have he':¬env[p].fr.l=w.l:=fun e=>he (by cases h7:env[p].fr;cases h8:w;rw[h7,h8]at e;simp only at e;rw[e])
          repeat'(first|refine rq ?_|refine rx (dZ ae ai) ?_|refine rq ?_|simp only[go_sem,HHn,h1,hp',he',hwi,y4,bh,Tryz.f102])
          refine⟨⟨p,ae,hl⟩,af,?_⟩;refine gT ?_ ?_ (fun id o ho=>?_) ?_
          · simp only[go_sem,q7]
          · simp only[go_sem,HHn]
          · refine kX.out id o ho fun h1=>?_
            ((repeat'(first|exact trivial|apply au))<;>(rintro rfl;simp only at h1;omega))
          · simp only[go_sem]
    · obtain rfl:i=f.words.length:=ae
      obtain⟨wl,hwl2⟩:∃wl,f.words.map (lkp env)=wl:=⟨_,rfl⟩;have hres:∃(env2:List cX) (nm2:Str) (k2:Nat),ren (vg used) f env k=(.mk f.kind nm2 wl (dj (vg used) f.subs env2 k2).1,(dj (vg used) f.subs env2 k2).2)∧k2≤k+(used.length+1)∧env2.length≤env.length+1∧
          (isQ f.kind→env2=env++[⟨f.name,(vg used k).1⟩]∧nm2=(vg used k).1∧k2=(vg used k).2)∧(¬isQ f.kind→env2=env∧nm2=f.name∧k2=k):=by
        have h5:=vY used k;rw[kR.out];by_cases hq:isQ f.kind
        · exact⟨_,_,_,by rw[aF hq,hwl2],ae,ak,fun _=>⟨rfl,rfl,rfl⟩,fun h=>absurd hq h⟩
        · exact⟨_,_,_,by rw[az hq,hwl2],ae,ak,fun h=>absurd h hq,fun _=>⟨rfl,rfl,rfl⟩⟩
      obtain⟨env2,nm2,k2,hres,hk2,hel2,hq1,hq2⟩:=hres;have kW:=Kp.mk hres;have kq1:=Kp.mk hq1;have kq2:=Kp.mk hq2;clear hres hq1 hq2;obtain⟨U,hU⟩:∃U,used.length+1=U:=⟨_,rfl⟩;rw[hU]at hk hk2;have hUf:U*f.size=U*aH.sizes f.subs+U:=by rw[hszs,ej,fO]
      have hU0:used.length≤U:=ae
      have hUs:U≤U*f.size:=ae
      obtain⟨A,hA⟩:∃A:Nat→List Abs.aH,A=fun j=>(dj (vg used) (f.subs.take j) env2 k2).1:=⟨_,rfl⟩;obtain⟨K,hK⟩:∃K:Nat→Nat,K=fun j=>(dj (vg used) (f.subs.take j) env2 k2).2:=⟨_,rfl⟩;have hA0:A 0=[]:=by rw[hA];simp[dj]
      have hK0:K 0=k2:=by rw[hK];simp[dj]
      have hAs:∀j (h:j<f.subs.length),A (j+1)=A j++[(ren (vg used) f.subs[j] env2 (K j)).1]∧K (j+1)=(ren (vg used) f.subs[j] env2 (K j)).2:=fun j h=>by rw[hA,hK];simp only[aB h,Dk,dj];constructor<;>first|rfl|trivial
      have hAl:∀j,(A j).length≤j:=fun j=>by rw[hA];simp only[rI,aX];omega
      have hKb:∀j (h:j<f.subs.length),K j+U*f.subs[j].size≤999999999999:=fun j h=>by have h6:=((rT (vY used)).2 (f.subs.take j) env2 k2).2;rw[hU]at h6;have h7:=gZ U (wK h);rw[ej]at h7;rw[hK];simp only;omega
      have hAe:A f.subs.length=(dj (vg used) f.subs env2 k2).1∧K f.subs.length=(dj (vg used) f.subs env2 k2).2:=by rw[hA,hK];simp only[aJ];first|trivial|(constructor<;>first|rfl|trivial)
      have kA:=Kp.mk hAs;have kB:=Kp.mk hAl;have kC:=Kp.mk hKb;have kE:=Kp.mk hAe;clear hAs hAl hKb hAe hA hK;rcases Decidable.em (isQ f.kind)with hq|hq
      case' inl=>
        obtain⟨q1,q2,q3⟩:=kq1.out hq;unfold isQ at hq
        have h214:=f101 (used:=used) (k:=k) (n:=m1) (ga:=ga) (gb:=gb) (X:=hpX [((102003,n),some ⟨[.fz (.i .i64 f.kind),.fz (.s f.name.l),.fz (.sl (f.words.map enc)),.fz (.sl (f.subs.map enc))],true,false⟩),((102006,n+1),some ⟨[.fz (.i .i64 0),.fz (.s []),.full [],.full []],true,false⟩),
            ((102007,n+1+1),some ⟨[.fz (.i .i64 f.kind),.fz (.s f.name.l),.ow (102048,g1) 1 (wl.map enc),.ow (102083,n+1+1+1) 4 []],true,false⟩),((102083,n+1+1+1),some tok)] X) ae ae ae (by
          intro id o ho;simp only[hpX]at ho;split at ho
          · rename_i e;subst e;simp only;omega
          split at ho
          · rename_i e;subst e;simp only;omega
          split at ho
          · rename_i e;subst e;simp only;omega
          split at ho
          · rename_i e;subst e;simp only;omega
          · have:=kx.out id o ho;omega)
        rw[←q2,←q3]at h214
        repeat'(first|refine rq ?_|simp only[go_sem,HHn,hq,aC,aJ,hwl2,bn,Tryz.f102])
        refine dJ.i (qo qQl (by simp only[go_sem,HHn]) (fun id o ho=>?_) (aI _) (jl h214 ?_))
        · simp only[hpX]at ho;split at ho
          · rename_i e;subst e;simp only[go_sem];exact bq ho
          split at ho
          · rename_i e;subst e;simp only[go_sem];exact bq ho
          split at ho
          · rename_i e;subst e;simp only[go_sem];exact bq ho
          split at ho
          · rename_i e;subst e;simp only[go_sem];exact bq ho
          · refine kX.out id o ho fun h1=>?_
            ((repeat'(first|exact trivial|apply au))<;>(rintro rfl;simp only at h1;omega))
        rintro d' H' n' ⟨rfl,e1,e2,e3⟩;have b3:=e3 (102003,n) ⟨[.fz (.i .i64 f.kind),.fz (.s f.name.l),.fz (.sl (f.words.map enc)),.fz (.sl (f.subs.map enc))],true,false⟩ aj;have b6:=e3 (102006,n+1) ⟨[.fz (.i .i64 0),.fz (.s []),.full [],.full []],true,false⟩ aj;have b7:=e3 (102007,n+1+1) ⟨[.fz (.i .i64 f.kind),.fz (.s f.name.l),.ow (102048,g1) 1 (wl.map enc),.ow (102083,n+1+1+1) 4 []],true,false⟩ aj;have b8:=e3 (102083,n+1+1+1) tok aj;have hX2:∀id o,X id=some o→H' id=some o:=fun id o ho=>e3 id o (kX.out id o ho fun h1=>by
          ((repeat'(first|exact trivial|apply au))<;>(rintro rfl;simp only at h1;omega)))
        have kX2:=Kp.mk hX2;clear hX2 e3;simp only[go_sem,HHn]at e2;obtain⟨b1,b2⟩:=e2;rw[show H'=hpX [] H' from rfl]
        repeat'(first|refine rq ?_|refine rx (dZ ae ai) ?_|refine rq ?_|simp only[go_sem,HHn,b3,b6,b7,b8,bn,Tryz.f102])
      case' inr=>
        obtain⟨q1,q2,q3⟩:=kq2.out hq;unfold isQ at hq
        repeat'(first|refine rq ?_|simp only[go_sem,HHn,hq,aC,aJ,hwl2,bn,Tryz.f102])
      all_goals
        refine cI hm hR1 102000 qW8 (ι:=xR f.subs.length (n+5) n)
          ⟨fun q=>⟨frL [(1,eS env2),(2,.fn 101 [.ptr (76010,ga) 0,.ptr (76005,gb) 0]),(6,.ptr (102006,n+1) 0),(7,.ptr (102007,n+1+1) 0),
              (70,.fz (.sl (f.subs.map enc))),(71,.fz (.i .i64 f.subs.length)),(72,.fz (.i .i64 q.i))],
            hpX ([((102006,n+1),some ⟨[.fz (.i .i64 0),.fz (.s []),.full [],.full []],true,false⟩),
              ((102007,n+1+1),some ⟨[.fz (.i .i64 f.kind),.fz (.s nm2.l),.ow (102048,g1) 1 (wl.map enc),.ow (102083,q.g) 4 ((A q.i).map enc)],true,false⟩),
              ((102083,q.g),some tok)]++HHn (K q.i) used ga gb) X,q.m⟩,fun q=>f.subs.length-q.i⟩
          ⟨0,n+1+1+1,by first|exact n'|exact m1,ae,ae,ae,ae⟩ ah ?_ ?_
        · refine gT ?_ ?_ (fun id o ho=>?_) ?_
          · simp only[go_sem,q1,q2,aE]
          · first
              |(simp only[go_sem,HHn,hA0,hK0,q2,q3,b1,b2,b3,b6,b7,b8];done)
              |(simp only[go_sem,HHn,hA0,hK0,q2,q3];done)
          · first
              |(have h1:=kx.out id o ho
                refine(oL ?_).trans (kX2.out id o ho)
                ((repeat'(first|exact trivial|apply au))<;>(rintro rfl;simp only at h1;omega)))
              |(refine kX.out id o ho fun h1=>?_
                ((repeat'(first|exact trivial|apply au))<;>(rintro rfl;simp only at h1;omega)))
          · simp only[go_sem]
        rintro⟨j,g2,m2,hj,hg2,hm2,hgl2⟩
        try simp only at hj hg2 hm2 hgl2
        rcases aA j f.subs.length with h2|h2
        · have hmem:=aT h2;obtain⟨x,hx⟩:∃x,f.subs[j]=x:=⟨_,rfl⟩;have hz:=kZ.out _ hmem;have hwx:=kS.out _ hmem;have hAj:=kA.out j h2;have hKj:=kC.out j h2;have hAlj:=kB.out j;rw[hx]at hz hwx hAj hKj;obtain⟨y,hy⟩:∃y,(ren (vg used) x env2 (K j)).1=y:=⟨_,rfl⟩;obtain⟨kj,hkj⟩:∃kj,(ren (vg used) x env2 (K j)).2=kj:=⟨_,rfl⟩;rw[hy,hkj]at hAj;have hlx:=aH.size_mem (l:=f.subs) hmem;rw[hx]at hlx
          have ih2:∀(m3:Nat),m2≤m3→_:=fun m3 hm3=>kI.out x env2 (K j) m3 (hpX [((102006,n+1),some ⟨[.fz (.i .i64 0),.fz (.s []),.full [],.full []],true,false⟩),
              ((102007,n+1+1),some ⟨[.fz (.i .i64 f.kind),.fz (.s nm2.l),.ow (102048,g1) 1 (wl.map enc),.ow (102083,g2) 4 ((A j).map enc)],true,false⟩),((102083,g2),some tok)] X) hz.1 hwx hz.2 ae ae (by rw[hU];omega) ae (by
            intro id o ho;simp only[hpX]at ho;split at ho
            · rename_i e;subst e;simp only;omega
            split at ho
            · rename_i e;subst e;simp only;omega
            split at ho
            · rename_i e;subst e;simp only;omega
            · have:=kx.out id o ho;omega)
          simp only[hy,hkj]at ih2;rw[jf (f:=x)]at ih2;obtain⟨fy,hfy⟩:∃fy,enc y=fy:=⟨_,rfl⟩;have hcy:fy.cells.length=4:=by rw[←hfy,jf];rfl
          have hff:(bA [fy]).all fh=true:=by rw[←hfy];have h9:=@IH [y];exact aU h9▸h9
          repeat'(first|refine rq ?_|simp only[go_sem,HHn,h2,hx,bh,Tryz.f102])
          refine fa (gr (id:=(102012,m2)) (t:=12) (b:=true) (ys:=[.i .i64 x.kind,.s x.name.l,.sl (x.words.map enc),.sl (x.subs.map enc)]) aj aj) ?_;refine ru hm hR1 102000 qW8 Dx ?_
          repeat'(first|apply au|refine rq ?_|simp only[go_sem,Dx,HHn,h2,hx,bh,Tryz.f102])
          all_goals
            refine dJ.i (qo qQl (by simp only[go_sem,HHn]) (fun id o ho=>?_) (aI _) (jl (ih2 _ ae) ?_))
            · simp only[hpX]at ho;split at ho
              · rename_i e;subst e;simp only[go_sem];exact bq ho
              split at ho
              · rename_i e;subst e;simp only[go_sem];exact bq ho
              split at ho
              · rename_i e;subst e;simp only[go_sem];exact bq ho
              · refine kX.out id o ho fun h1=>?_
                ((repeat'(first|exact trivial|apply au))<;>(rintro rfl;simp only at h1;omega))
            rintro d' H' n' ⟨rfl,e1,e2,e3⟩;have c6:=e3 (102006,n+1) ⟨[.fz (.i .i64 0),.fz (.s []),.full [],.full []],true,false⟩ aj;have c7:=e3 (102007,n+1+1) ⟨[.fz (.i .i64 f.kind),.fz (.s nm2.l),.ow (102048,g1) 1 (wl.map enc),.ow (102083,g2) 4 ((A j).map enc)],true,false⟩ aj;have c8:=e3 (102083,g2) tok aj;have hX2:∀id o,X id=some o→H' id=some o:=fun id o ho=>e3 id o (kX.out id o ho fun h1=>by
              ((repeat'(first|exact trivial|apply au))<;>(rintro rfl;simp only at h1;omega)))
            clear e3;simp only[go_sem,HHn]at e2;obtain⟨c1,c2⟩:=e2;rw[show H'=hpX [] H' from rfl];rw[hfy]
            repeat'(first|refine rq ?_|refine rx (dZ ae ai) ?_|refine rq ?_|simp only[go_sem,Dx,c1,c2,c6,c7,c8,h2,hcy,hff,Tryz.f102])
            refine⟨⟨j+1,n',n'+1,ae,ae,ae,ae⟩,af,?_⟩;refine gT ?_ ?_ (fun id o ho=>?_) ?_
            · simp only[go_sem]
            · simp only[go_sem,HHn,c1,c2,c6,c7,c8,hAj.1,hAj.2,hfy,aE]
            · have h1:=kx.out id o ho;refine(oL ?_).trans (hX2 id o ho)
              ((repeat'(first|exact trivial|apply au))<;>(rintro rfl;simp only at h1;omega))
            · simp only[go_sem]
        · obtain rfl:j=f.subs.length:=ae
          have hE:=kE.out
          repeat'(first|refine rq ?_|simp only[go_sem,HHn,aC,Tryz.f102])
          rw[kQ.out,kW.out];refine⟨?_,ae,?_,fun id o ho=>kX.out id o ho fun h1=>?_⟩
          · rw[←hE.1];simp only[go_sem]
          · rw[←hE.2];simp only[go_sem,HHn]
          · ((repeat'(first|exact trivial|apply au))<;>(rintro rfl;simp only at h1;omega))
section
variable {P:Program} {G:Nat→List FD}
theorem Lt {k:Nat}(xs:List FD):oJ k (bA xs)=bA xs:=by
 rw[tz]
 conv=>rhs;rw[←gK (bA xs)]
 refine bB fun d hd=>?_;obtain⟨x,hx,hd⟩:=ff.1 hd;obtain⟨y,_,rfl⟩:=be.1 hd;rfl
theorem XN {f:FuncId}{args:List D}{xs ys:List FD}{hl:List (Abs.Id×Option O)}{n t len:Nat}{bx vt:Bool}{R:D→bR→Nat→Prop}(ha:D.toFDs args=some xs)
  (h:cS P G f (xs.map .fz) (hpL []) 0 (fun d H1 n1=>∃g,g<n1∧d= .arr (t,g) 1 0 len∧H1 (t,g)=some ⟨bA ys,bx,vt⟩))(hR:∀g n',n≤g→g<n'→R (.arr (t,g) 1 0 len) (hpL (((t,g),some ⟨bA ys,bx,vt⟩)::hl)) n'):cS P G f args (hpL hl) n R:=by
 rw[←ky]at h;refine uy h.1 fun hfr=>lj (wX ha h) ?_;rintro d H' n' ⟨d1,H1,n1,⟨g,hg,rfl,ho⟩,rfl,rfl,rfl⟩;have hsh:shH n (hpL hl) H1 (t,g+n)=some ⟨bA ys,bx,vt⟩:=by unfold shH;rw[aF ak,show(t,g+n-n)=(t,g) by rw[dl],ho];simp only[bL,shO,Lt]
 refine⟨.arr (t,g+n) 1 0 len,hpL (((t,g+n),some ⟨bA ys,bx,vt⟩)::hl),n+n1,oo ?_ (fun id o hid=>?_) (aI _),hR (g+n) (n+n1) ae ae⟩
 ·exact⟨rfl,trivial⟩
 ·simp only[hpL]at hid;split at hid
  ·rename_i e;subst e;rw[←hid];exact hsh
  ·have hlt:id.2<n:=by
    rcases aA id.2 n with h3|h3
    ·exact h3
    ·rw[hfr id h3]at hid;cases hid
   show shH n (hpL hl) H1 id=some o;unfold shH;rw[az ae];exact hid
end
theorem LH (k:List (Abs.Id×Option O)):∀l:List (Abs.Id×Option O),hpL (l++k)=hpX l (hpL k)
 |[]=>rfl
 |(i,o)::l=>by funext j;simp only[a6,hpL,hpX,LH k l]
def qe (b:cX)(w:Str):Str:=if w=b.fr then b.to else w
theorem Yr (env:List cX)(b:cX)(u:List Str):mB (env++[b]) u=(mB env u).map (qe b):=by unfold mB;rw[dq];rfl
def lP (b:cX)(u:List Str)(i:Nat):List Str:=(u.take i).map (qe b)++u.drop i
theorem CA {b:cX}{u:List Str}{i:Nat}:(lP b u i).length=u.length:=by unfold lP;rw[aD,aG,aX,jc];omega
theorem Zw {b:cX}{u:List Str}:lP b u 0=u:=by simp[lP]
theorem OV {b:cX}{u:List Str}:lP b u u.length=u.map (qe b):=by simp[lP]
theorem OW {b:cX}{u:List Str}{i:Nat}(h:i<u.length):(bA ((lP b u i).map enc)).getD i .junk= .fz (.s u[i].l):=by
 have h2:i<(lP b u i).length:=by rw[CA];exact h
 rw[nM h2];have h3:(lP b u i)[i]?=some u[i]:=by unfold lP;rw[ce (by rw[aG,aX];omega)];simp[aX,eU (mM h),h]
 rw[(dw.1 h3).2];rfl
theorem Zu {b:cX}{u:List Str}{i:Nat}(h:i<u.length):(lP b u i).set i u[i]=lP b u i:=by
 have h2:i<(lP b u i).length:=by rw[CA];exact h
 have h3:(lP b u i)[i]?=some u[i]:=by unfold lP;rw[ce (by rw[aG,aX];omega)];simp[aX,eU (mM h),h]
 have h4:=(dw.1 h3).2;rw[←h4];exact List.set_getElem_self h2
theorem Zv {b:cX}{u:List Str}{i:Nat}(h:i<u.length):lP b u (i+1)=(lP b u i).set i (qe b u[i]):=by
 unfold lP;have hl:((u.take i).map (qe b)).length=i:=by rw[aG,aX];omega
 rw[gl _ _ ae,hl,cM,aB h,aE,bu,aR h];rfl
theorem rM {f:Abs.aH}(h:f.fit=true)(bd:List Str):(cst f bd).length≤1000*f.size:=by
 suffices hh:∀m,(∀(f:Abs.aH) (bd:List Str),f.size≤m→f.fit=true→(cst f bd).length≤1000*f.size)∧(∀(fs:List Abs.aH) (bd:List Str),aH.sizes fs≤m→aH.fits fs=true→(ef fs bd).length≤1000*aH.sizes fs)from(hh f.size).1 f bd (aI _) h
 intro m;induction m with
 |zero=>
  refine⟨fun f _ h=>by have:=f.size_pos;omega,fun fs bd h _=>?_⟩;cases fs with
  |nil=>simp[ef]
  |cons f fs=>rw[aH.sizes]at h;have:=f.size_pos;omega
 |succ m ih=>
  have h1:∀(f:Abs.aH) (bd:List Str),f.size≤m+1→f.fit=true→(cst f bd).length≤1000*f.size:=by rintro⟨k,nm,ws,s⟩ bd hs hf;rw[aH.size]at hs ⊢;rw[aH.fit]at hf;simp only[aS,bi]at hf;rw[cst,aD];have h2:=ih.2 s (if isQ k then bd++[nm]else bd) ae hf.2;have h3:=jG (fun w=>decide (w∉bd)) ws;omega
  refine⟨h1,fun fs=>?_⟩;induction fs with
  |nil=>intro bd _ _;simp[ef]
  |cons f fs ih2=>intro bd hs hf;rw[aH.sizes]at hs ⊢;rw[aH.fits,aS]at hf;rw[ef,aD];have h2:=h1 f bd ae hf.1;have h3:=ih2 bd ae hf.2;omega
structure Ut (n:Nat) where
 e:Nat
 m:Nat
 he:e≤n
structure Uv (n m0:Nat) where
 i:Nat
 hi:i≤n
def CD (f:Abs.aH)(env:List cX):Prop:=f.fit=true∧f.size≤1000∧env.length≤1000
def R2:Tbl:=R1.add 76 (sp2 eC CD)
attribute [go_sem] R2
theorem hR2:b9 Tryz.prog GA R2:=by
 refine gN Hf hR1 fun f env hpre hw _=>?_;obtain⟨hfit,hsz,hel⟩:=hpre;have hcl:=rM hfit [];have hul:=yz f;have h167:=f80 hw ae ae;rw[jf]at h167;obtain⟨u,hu⟩:∃u,eR f=u:=⟨_,rfl⟩;obtain⟨vt,hvt⟩:∃vt,(cst f []).isEmpty=vt:=⟨_,rfl⟩;have hvu:u≠[]→vt=false:=fun h=>by
  rw[←hvt];cases hc:cst f []with
  |cons=>rfl
  |nil=>rw[hc]at hul;rw[hu]at hul;simp only[bj,Nat.le_zero]at hul;exact absurd (bG hul) h
 have hvu2:vt=true→u=[]:=fun h=>by
  cases hc:u with
  |nil=>rfl
  |cons a l=>have:=hvu (by rw[hc];simp);rw[this]at h;cases h
 rw[hu,hvt]at h167;rw[hu]at hul;refine rv (N:=43) hm hR1 76000 qWi Hf Tryz.func76 rfl ?_
 repeat'(first|refine rq ?_|simp only[go_sem,Tryz.f76])
 refine dJ.i (XN rfl h167 fun g m hg hgm=>?_)
 repeat'(first|refine rq ?_|simp only[go_sem,Tryz.f76])
 obtain⟨X,hXd⟩:∃X:Nat→List Str,X=fun e=>mB (env.take e) u:=⟨_,rfl⟩;have hX0:X 0=u:=by rw[hXd];rfl
 have hXs:∀e (h:e<env.length),X (e+1)=(X e).map (qe env[e]):=fun e h=>by rw[hXd];simp only[aB h,Yr]
 have hXl:∀e,(X e).length=u.length:=fun e=>by rw[hXd];exact KN _ _
 have hXe:X env.length=mB env u:=by rw[hXd];simp only[aJ]
 clear hXd
 refine cI hm hR1 76000 qWi (ι:=Ut env.length)
  ⟨fun q=>⟨frL [(1,eS env),(2,.ptr (76002,0) 0),(4,.ptr (76004,1) 0),(5,.ptr (76005,m) 0),(14,eS env),(15,eI env.length),(16,eI q.e)],
   hpL [((76002,0),some ⟨(qcD f),true,false⟩),((76004,1),some ⟨[eI 0,.fz (.s []),.full [],.full []],true,false⟩),
    ((76005,m),some ⟨[.arr (106024,g) 1 0 u.length],true,false⟩),((106024,g),some ⟨bA ((X q.e).map enc),false,vt⟩)],m+1+q.m⟩,fun q=>env.length-q.e⟩
  ⟨0,0,ae⟩ ah ?_ ?_
 ·refine bF ?_ ?_ ?_<;>simp only[go_sem,hX0]
 rintro⟨e,q,he⟩
 try simp only at he
 rcases aA e env.length with h1|h1
 ·obtain⟨b,hb⟩:∃b,env[e]=b:=⟨_,rfl⟩;have hXe1:=hXs e h1;have hXl1:=hXl e;rw[hb]at hXe1;obtain⟨x,hx⟩:∃x,X e=x:=⟨_,rfl⟩;rw[hx]at hXl1 hXe1
  repeat'(first|refine rq ?_|simp only[go_sem,h1,hb,hx,bh,Tryz.f76])
  refine cI hm hR1 76000 qWi (ι:=Uv x.length 0)
   ⟨fun p=>⟨frL [(1,eS env),(2,.ptr (76002,0) 0),(4,.ptr (76004,1) 0),(5,.ptr (76005,m) 0),(7,.ptr (76007,m+1+q) 0),(14,eS env),(15,eI env.length),(16,eI e),
     (20,.arr (106024,g) 1 0 u.length),(21,.fz (.i .i64 u.length)),(22,.fz (.i .i64 p.i))],
    hpL [((76002,0),some ⟨(qcD f),true,false⟩),((76004,1),some ⟨[eI 0,.fz (.s []),.full [],.full []],true,false⟩),
     ((76005,m),some ⟨[.arr (106024,g) 1 0 u.length],true,false⟩),((76007,m+1+q),some ⟨[.fz (.s b.fr.l),.fz (.s b.to.l)],true,false⟩),
     ((106024,g),some ⟨bA ((lP b x p.i).map enc),false,vt⟩)],m+1+q+1⟩,fun p=>x.length-p.i⟩
   ⟨0,ae⟩ ah ?_ ?_
  ·refine bF ?_ ?_ ?_<;>simp only[go_sem,Zw]
  rintro⟨i,hi⟩
  try simp only at hi
  rcases aA i x.length with h2|h2
  ·have hv0:vt=false:=hvu (by intro e;rw[e]at hXl1;simp only[bj]at hXl1;omega);have hgt:=OW (b:=b) h2;have hi2:i<u.length:=ae
   obtain⟨w,hw2⟩:∃w,x[i]=w:=⟨_,rfl⟩;have hsc:=Zv (b:=b) h2;rw[hw2]at hgt hsc;have hhl:=@CA b x i;obtain⟨y,hy⟩:∃y,lP b x i=y:=⟨_,rfl⟩;rw[hy]at hgt hsc hhl;have hst:(bA (y.map enc)).set i (.fz (.s b.to.l))=bA ((y.set i b.to).map enc):=jI (a:=b.to);by_cases he2:w.l=b.fr.l
   ·have hr:qe b w=b.to:=by unfold qe;rw[aF (by cases w;cases b;simp only at he2;simp[he2])]
    rw[hr]at hsc
    repeat'(first|refine rq ?_|simp only[go_sem,hi2,hy,hgt,he2,hv0,hst,Tryz.f76])
    refine⟨⟨i+1,ae⟩,af,?_⟩;refine bF ?_ ?_ ?_<;>simp only[go_sem,hsc,hv0]
   ·have hr:qe b w=w:=by unfold qe;rw[az (fun e=>he2 (by rw[e]))]
    rw[hr]at hsc
    repeat'(first|refine rq ?_|simp only[go_sem,hi2,hy,hgt,he2,hv0,Tryz.f76])
    have hkp:=Zu (b:=b) h2;rw[hw2,hy]at hkp;rw[hkp]at hsc;refine⟨⟨i+1,ae⟩,af,?_⟩;refine bF ?_ ?_ ?_<;>simp only[go_sem,hsc,hv0]
  ·obtain rfl:i=x.length:=ae
   have ha:lP b x u.length=x.map (qe b):=by rw[←hXl1];exact OV
   repeat'(first|refine rq ?_|simp only[go_sem,aC,hXl1,Tryz.f76])
   refine⟨⟨e+1,q+1,ae⟩,af,?_⟩;refine bF ?_ ?_ ?_<;>simp only[go_sem,hXe1,hXl1,ha]
   all_goals first|omega
 ·obtain rfl:e=env.length:=ae
  have hrl:=KN env u;obtain⟨r,hr⟩:∃r,mB env u=r:=⟨_,rfl⟩;rw[hr]at hrl hXe
  have h215:=f102 (used:=r) (ga:=m+1+q) (gb:=m) f.size f env 0 (m+1+q+1) (hpL [((76004,1),some ⟨[.fz (.i .i64 0),.fz (.s []),.full [],.full []],true,false⟩)]) (aI _) hw hfit ae ae
   (by
    have h5:(r.length+1)*f.size≤1000001*1000:=eN ae hsz;omega) ae (fun id o ho=>by
    simp only[hpL]at ho;split at ho
    ·rename_i e;subst e;simp only;omega
    ·cases ho)
  have hcan:(ren (vg r) f env 0).1=eC f env:=by unfold eC;rw[hu,hr]
  rw[hcan]at h215;obtain⟨c,hc⟩:∃c,eC f env=c:=⟨_,rfl⟩;rw[hc]at h215 ⊢;rw[jf (f:=f)]at h215
  repeat'(first|refine rq ?_|simp only[go_sem,aC,hXe,Tryz.f76])
  refine dJ.i (qw rfl (Dq (args':=[.fz (.agg [.i .i64 f.kind,.s f.name.l,.sl (f.words.map enc),.sl (f.subs.map enc)]),.fz (enc env),.fn 101 [.ptr (76010,m+1+q) 0,.ptr (76005,m) 0]])
   (hl:=HHn 0 r (m+1+q) m++[((76004,1),some ⟨[.fz (.i .i64 0),.fz (.s []),.full [],.full []],true,false⟩)]) (n':=m+1+q+1) [] [] [((106024,g),r.map enc)] rfl ?_ ?_ ?_ ?_ ?_ ?_))
  case _=>omega
  case _=>
   simp only[go_sem];intro h;have h9:=hvu2 h;rw[h9,bj]at hrl;rw[bG hrl];rfl
  case _=>simp only[go_sem,HHn];(repeat'(first|omega|rfl|apply au))
  case _=>simp only[go_sem,HHn];(repeat'(first|omega|rfl|apply au))
  case _=>simp only[go_sem];(repeat'(first|omega|rfl|apply au))
  rw[LH];refine jl h215 ?_;rintro d' H' n' ⟨rfl,e1,e2,e3⟩;have b4:=e3 (76004,1) ⟨[.fz (.i .i64 0),.fz (.s []),.full [],.full []],true,false⟩ aj;rw[show H'=hpX [] H' from rfl]
  repeat'(first|refine rq ?_|simp only[go_sem,b4,Tryz.f76])
def R3:Tbl:=R2
attribute [go_sem] R3
theorem hR3:b9 Tryz.prog GA R3:=hR2
def R4:Tbl:=R3.add 53 (sp1 (fun f:Abs.aH=>eC f []) fun f=>f.fit=true∧f.size≤1000)
attribute [go_sem] R4
theorem hR4:b9 Tryz.prog GA R4:=by
 refine iD G' hR3 fun f hpre _=>?_;have hp:CD f []:=⟨hpre.1,hpre.2,ak⟩;refine rv (N:=5) hm hR3 53000 qWi G' Tryz.func53 rfl ?_
 repeat'(first|refine rq ?_|apply rx hp|simp only[go_sem,R3,R2,Tryz.f53])
section
variable {P:Program} {G:Nat→List FD} {T:Tbl}
theorem DH {α β γ ρ:Type}[Enc α][Enc β][Enc γ][Enc ρ]{f:FuncId}{g:α→β→γ→ρ}{pre:α→β→γ→Prop}(m:α→Nat)(hc:cW P f)(hT:b9 P G T)
  (h:∀n,b9 P G (T.add f (sp3 g fun a b c=>m a<n∧pre a b c))→∀a b c,m a=n→pre a b c→(enc a).Wf→(enc b).Wf→(enc c).Wf→cS P G f [.fz (enc a),.fz (enc b),.fz (enc c)] (hpL []) 0 (fun d _ _=>D.val d=some (.fz (enc (g a b c))))):b9 P G (T.add f (sp3 g pre)):=by
 have key:∀n,b9 P G (T.add f (sp3 g fun a b c=>m a<n∧pre a b c)):=by
  intro n;induction n with
  |zero=>exact oT hc hT fun a b c ha=>ae
  |succ n ih=>
   refine oT hc hT fun a b c ha hw hw2 hw3=>?_;rcases aA (m a) n with h1|h1
   ·have h2:=ih f (sp3 g fun a b c=>m a<n∧pre a b c) [enc a,enc b,enc c] _ _ (by simp[Tbl.add]) (FB) ⟨qQ5,qQ5,qQ5,by rw[dec_enc,dec_enc,dec_enc];exact⟨h1,ha.2⟩⟩;rw[dec_enc,dec_enc,dec_enc,ky]at h2;exact h2
   ·exact h n ih a b c ae ha.2 hw hw2 hw3
 exact oT hc hT fun a b c ha hw hw2 hw3=>h (m a) (key _) a b c rfl ha hw hw2 hw3
end
theorem Fk {n:Int}(h1:0≤n)(h2:n≤255):inK .u8 n:=⟨h1,h2⟩
def x7 (n:Int):Str:=⟨fV n.toNat⟩
theorem Wi {n:Nat}(h:n<10):fV n=[UInt8.ofNat (48+n)]:=by unfold fV;rw[Lib.decDigits,dif_pos h]
theorem Xu {n:Nat}(h:¬n<10):fV n=fV (n / 10)++[UInt8.ofNat (48+n % 10)]:=by unfold fV;rw[Lib.decDigits,dif_neg h]
structure Us (n0:Nat) where
 n:Nat
 s:List UInt8
 hn:n≤n0
 h:fV n0=fV n++s
 hl:s.length≤n0-n
def R5:Tbl:=R4.add 50 (sp1 x7 fun n=>0≤n∧n≤1000000000000)
attribute [go_sem] R5
theorem hR5:b9 Tryz.prog GA R5:=by
 refine iD G7 hR4 fun n0 hn0 _=>?_;obtain⟨k,rfl⟩:∃k:Nat,n0=(k:Int):=⟨n0.toNat,ae⟩;have hd:enc (x7 (k:Int))= .s (fV k):=rfl;rw[hd];refine rv (N:=17) hm hR4 50000 qWi G7 Tryz.func50 rfl ?_
 repeat'(first|refine rq ?_|simp only[go_sem,Tryz.f50])
 refine cI hm hR4 50000 qWi (ι:=Us k)
  ⟨fun q=>⟨frL [(0,eI q.n),(3,.fz (.s q.s))],hpL [],0⟩,fun q=>q.n⟩
  ⟨k,[],aI _,ak,ak⟩ ah ?_ ?_
 ·refine bF ?_ ?_ ?_<;>simp only[go_sem]
 rintro⟨n,s,hn,h,hl⟩
 try simp only at hn h hl
 have hk:=hn0.2;have hb:UInt8.ofNat (48+(n:Int) % 10).toNat=UInt8.ofNat (48+n % 10):=by congr 1
 have hdv:(n:Int) / 10=((n / 10:Nat):Int):=ae
 by_cases h10:n<10
 ·have h0:(n:Int) / 10=0:=ae
  have hmod:n % 10=n:=dA h10;rw[Wi h10]at h
  repeat'(first|refine rq ?_|refine rx (Fk ae ae) ?_|simp only[go_sem,hb,h0,hmod,h,a6,aK,List.singleton_append,Tryz.f50])
 ·have h0:¬(n:Int) / 10=0:=ae
  rw[Xu h10]at h
  repeat'(first|refine rq ?_|refine rx (Fk ae ae) ?_|simp only[go_sem,hb,h0,Tryz.f50])
  refine⟨⟨n / 10,UInt8.ofNat (48+n % 10)::s,ae,by(rw[h,bu];try rfl),(by simp only[aN];omega)⟩,by first|omega|(simp only;omega),?_⟩;refine bF ?_ ?_ ?_<;>simp only[go_sem,hb,hdv]
def twN (l:List Str)(s:Str):Nat:=(l.takeWhile fun x=>decide (x.l<s.l)).length
theorem xe {x s:Str}{l:List Str}:twN (x::l) s=if x.l<s.l then twN l s+1 else 0:=by
 unfold twN;by_cases h:x.l<s.l
 ·rw[List.takeWhile_cons_of_pos qQh,aF h,aN]
 ·rw[List.takeWhile_cons_of_neg qQh,az h];rfl
theorem Ai (s:Str):∀l:List Str,twN l s≤l.length
 |[]=>aI _
 |x::l=>by rw[xe];have:=Ai s l;split<;>simp only[aN]<;>omega
theorem Aj {s:Str}:∀{l:List Str} {i:Nat} (h:i<l.length),i<twN l s→l[i].l<s.l
 |x::l,0,_,h2=>by
  rw[xe]at h2;split at h2
  ·assumption
  ·omega
 |x::l,i+1,h,h2=>by
  rw[xe]at h2;split at h2
  ·exact Aj (l:=l) qQh ae
  ·omega
theorem Ah {s:Str}:∀{l:List Str} {i:Nat} (h:i<l.length),i=twN l s→¬l[i].l<s.l
 |x::l,0,_,h2=>by
  rw[xe]at h2;split at h2
  ·omega
  ·assumption
 |x::l,i+1,h,h2=>by
  rw[xe]at h2;split at h2
  ·exact Ah (l:=l) qQh ae
  ·omega
theorem s7:∀x y:List UInt8,Op.bytesLess x y=decide (x<y)
 |[],[]=>by simp[Op.bytesLess]
 |_::_,[]=>by simp[Op.bytesLess]
 |[],_::_=>by simp[Op.bytesLess]
 |a::x,b::y=>by rw[Op.bytesLess,s7 x y];by_cases h1:a<b<;>by_cases h2:a=b<;>simp[h1,h2,List.cons_lt_cons_iff]
theorem vh {α:Type}[Enc α]{l:List α}{i:Nat}:ku (l.map enc) (i:Int) (l.length:Int)=(l.drop i).map enc:=by have h:=@Sr (l.map enc) i;rw[aG]at h;rw[h,dQ]
def R6:Tbl:=R5.add 47 (sp2 fM fun l _=>l.length≤1000000)
attribute [go_sem] R6
theorem hR6:b9 Tryz.prog GA R6:=by
 refine gN rh hR5 fun l s hl _ _=>?_;by_cases hin:s∈l
 ·have e:fM l s=l:=by unfold fM;rw[aF hin]
  rw[e];refine rv (N:=39) hm hR5 47000 qWy rh Tryz.func47 rfl ?_
  repeat'(first|refine rq ?_|simp only[go_sem,hin,Tryz.f47])
 ·have e:fM l s=l.take (twN l s)++[s]++l.drop (twN l s):=by unfold fM;rw[az hin];rfl
  rw[e];clear e;have hlt:∀i (h:i<l.length),i<twN l s→Op.bytesLess l[i].l s.l=true:=fun i h h2=>by rw[s7];exact ba (Aj h h2)
  have hat:∀i (h:i<l.length),i=twN l s→Op.bytesLess l[i].l s.l=false:=fun i h h2=>by rw[s7];exact aW (Ah h h2)
  have htl:=Ai s l;obtain⟨T,hT⟩:∃T,twN l s=T:=⟨_,rfl⟩;rw[hT]at hlt hat htl ⊢;clear hT;have kl:=Kp.mk hlt;have ka:=Kp.mk hat;clear hlt hat;refine rv (N:=39) hm hR5 47000 qWy rh Tryz.func47 rfl ?_
  repeat'(first|refine rq ?_|simp only[go_sem,hin,Tryz.f47])
  refine cI hm hR5 47000 qWy (ι:=eO T fun _=>True)
   ⟨fun q=>⟨frL [(0,eS l),(1,.fz (.s s.l)),(5,.full []),(6,eI q.i)],hpL [],0⟩,fun q=>T-q.i⟩
   ⟨0,ae,trivial⟩ ah ?_ ?_
  ·refine bF ?_ ?_ ?_<;>simp only[go_sem]
  rintro⟨i,hi,_⟩
  try simp only at hi
  rcases aA i T with h1|h1
  ·have h2:i<l.length:=ae
   have h3:=kl.out i h2 h1
   repeat'(first|refine rq ?_|simp only[go_sem,h2,h3,bh,Tryz.f47])
   refine⟨⟨i+1,ae,trivial⟩,af,?_⟩;refine bF ?_ ?_ ?_<;>simp only[go_sem]
  ·obtain rfl:i=T:=ae
   have hlt:(l.take i).length=i:=by rw[aX];omega
   rcases aA i l.length with h2|h2
   case' inl=>have h3:=ka.out i h2 rfl
   case' inr=>have h3:¬i<l.length:=ae
   all_goals
    repeat'(first|refine rq ?_|refine rx (dZ qQc ai) ?_|refine rq ?_|simp only[go_sem,h2,h3,vh,bh,Tryz.f47])
   all_goals first|(simp only[aE,dR,dQ,aM,aQ,DJ])
end Go.Proofs.YtnijhilfchekkaaGreatDoor
namespace Go.Abs
open Go
def vEq (x d:D):Prop:=x=d∨D.val x=some d
def FrV (fr:Nat→D):List (Nat×D)→Prop
 |[]=>True
 |(k,d)::l=>vEq (fr k) d∧FrV fr l
@[go_sem] theorem zLI {fr:Nat→D}:FrV fr []=True:=rfl
@[go_sem] theorem zKd {fr:Nat→D}{k:Nat}{d:D}{l:List (Nat×D)}:FrV fr ((k,d)::l)=(vEq (fr k) d∧FrV fr l):=rfl
@[go_sem] theorem zLE {d:D}:vEq d d=True:=aU (.inl rfl)
@[go_sem] theorem zQC {id:Abs.Id}{es:Nat}{xs ys:List FD}:vEq (.ow id es xs) (.fz (.sl ys))=(xs=ys):=by unfold vEq;rw[Tc];simp
theorem FrV.get {fr:Nat→D}:∀{l:List (Nat×D)},FrV fr l→∀t,frL l t=fr t∨D.val (fr t)=some (frL l t)∨frL l t= .junk
 |[],_,_=> .inr (.inr rfl)
 |(k,d)::l,h,t=>by
  simp only[frL];split
  ·rename_i e;subst e;rcases h.1 with h1|h1
   ·exact .inl h1.symm
   ·exact .inr (.inl h1)
  ·exact FrV.get h.2 t
theorem CM {G:Nat→List FD}{N:Nat}{st:St}{l:List (Nat×D)}(hf:FrV st.fr l):gH G N st ⟨frL l,st.H,st.n⟩:=by
 intro a w L F hr;refine⟨L,F,⟨hr.ok,hr.size,fun t=>?_,hr.nd⟩,dH.refl _ _ _ _ _⟩;have:=hr.fr t;simp only;rcases hf.get t with e|e|e
 ·rw[e];exact this
 ·exact this.val e
 ·rw[e];exact trivial
theorem Nb {f:Abs.aH}{bd l:List Str}:iH f bd l=jC f.subs (if isQ f.kind then bd++[f.name]else bd) (f.words.foldl (fun l w=>if w∈bd then l else fM l w) l):=by cases f;rw[iH];rfl
mutual
theorem LX:∀(f:Abs.aH) (bd l:List Str),f.fit=true→(iH f bd l).length≤l.length+1000*f.size
 | .mk k nm ws s,bd,l,h=>by rw[aH.fit]at h;simp only[aS,bi]at h;rw[iH,aH.size];have h1:=yU s (if isQ k then bd++[nm]else bd) (ws.foldl (fun l w=>if w∈bd then l else fM l w) l) h.2;have h2:=wN bd ws l;omega
theorem yU:∀(fs:List Abs.aH) (bd l:List Str),aH.fits fs=true→(jC fs bd l).length≤l.length+1000*aH.sizes fs
 |[],_,l,_=>by rw[jC];omega
 |f::fs,bd,l,h=>by rw[aH.fits,aS]at h;rw[jC,aH.sizes];have h1:=LX f bd l h.1;have h2:=yU fs bd (iH f bd l) h.2;omega
end
theorem Cp:∀{fs:List Abs.aH} (j:Nat),aH.fits fs=true→aH.fits (fs.take j)=true
 |[],j,_=>by rw[List.take_nil,aH.fits]
 |f::fs,0,_=>by rw[bv,aH.fits]
 |f::fs,j+1,h=>by rw[aH.fits,aS]at h;rw[bm,aH.fits,aS];exact⟨h.1,Cp j h.2⟩
end Go.Abs
namespace Go.Proofs.YtnijhilfchekkaaGreatDoor
open Go Go.Abs Go.Proofs
def zM:Tv:=(.q 0 (.q 1 (.q 3 (.r 4 (.q 5 (.br [(2,(.br [(6,(.q 7 .leaf))]))]))))))
def vA (f:Abs.aH)(bd l:List Str):Prop:=f.fit=true∧bd.length+f.size≤2000∧l.length+1000*f.size≤1000000
def R7:Tbl:=R6.add 74 (sp3 iH vA)
attribute [go_sem] R7
theorem hR7:b9 Tryz.prog GA R7:=by
 refine DH aH.size yi hR6 fun n hT f bd l hn hpre hw _ _=>?_;obtain⟨hfit,hbl,hll⟩:=hpre;obtain⟨hwl,hsl,hfs⟩:=aH.fit_eq hfit;have hszs:f.size=aH.sizes f.subs+1:=by cases f;rw[aH.size];rfl
 have hsz:∀g∈f.subs,g.size<n∧g.fit=true:=fun g hg=>⟨qQn,aH.fits_mem hfs hg⟩;obtain⟨L,hL⟩:∃L:Nat→List Str,L=fun i=>(f.words.take i).foldl (fun l w=>if w∈bd then l else fM l w) l:=⟨_,rfl⟩;have hL0:L 0=l:=by rw[hL];rfl
 have hLs:∀i (h:i<f.words.length),L (i+1)=if f.words[i]∈bd then L i else fM (L i) f.words[i]:=fun i h=>by rw[hL];simp only[aB h,dq,bQ,dV]
 have hLl:∀i,(L i).length≤l.length+1000:=fun i=>by have:=wN bd (f.words.take i) l;rw[hL];simp only;rw[aX]at this;omega
 obtain⟨bd2,hbd2⟩:∃bd2,(if isQ f.kind then bd++[f.name]else bd)=bd2:=⟨_,rfl⟩;have hbl2:bd2.length≤bd.length+1:=by rw[←hbd2];split<;>simp
 obtain⟨lw,hlw⟩:∃lw,L f.words.length=lw:=⟨_,rfl⟩;have hlwl:lw.length≤l.length+1000:=by rw[←hlw];exact hLl _
 have hcst:iH f bd l=jC f.subs bd2 lw:=by rw[Nb,hbd2,←hlw,hL];simp only[aJ]
 obtain⟨M,hM⟩:∃M:Nat→List Str,M=fun j=>jC (f.subs.take j) bd2 lw:=⟨_,rfl⟩;have hM0:M 0=lw:=by rw[hM];simp only[bv,jC]
 have hMs:∀j (h:j<f.subs.length),M (j+1)=iH f.subs[j] bd2 (M j):=fun j h=>by rw[hM];simp only[aB h,Cf,jC]
 have hMl:∀j (h:j<f.subs.length),vA f.subs[j] bd2 (M j):=fun j h=>by have h1:=yU (f.subs.take j) bd2 lw (Cp j hfs);have h2:=wK h;have h3:=aH.size_mem (aT h);refine⟨(hsz _ (aT h)).2,ae,?_⟩;rw[hM];simp only;omega
 have hMe:M f.subs.length=iH f bd l:=by rw[hcst,hM];simp only[aJ]
 have kT:=Kp.mk hT;have kz:=Kp.mk hsz;have kL:=Kp.mk hLs;have kM:=Kp.mk hMs;have kN:=Kp.mk hMl;have kb:=Kp.mk hbd2;have kl:=Kp.mk hLl;rw[←hMe];clear hT hsz hLs hMs hMl hbd2 hL hM hcst hLl hw hMe hfit hfs;refine rv (N:=56) hm kT.out 74000 qWz yi Tryz.func74 rfl ?_
 repeat'(first|refine rq ?_|simp only[go_sem,Tryz.f74])
 refine fa (gr (id:=(74003,0)) (t:=3) (b:=true) (ys:=[.i .i64 f.kind,.s f.name.l,.sl (f.words.map enc),.sl (f.subs.map enc)]) aj aj) ?_
 refine cI hm kT.out 74000 qWz (ι:=eO f.words.length fun _=>True)
  ⟨fun q=>⟨frL [(1,eS bd),(2,eS (L q.i)),(3,.rp (qcF f)),(11,eS f.words),(12,eI f.words.length),(13,eI q.i)],hpL [],1⟩,fun q=>f.words.length-q.i⟩
  ⟨0,ae,trivial⟩ ah ?_ ?_
 ·refine bF ?_ ?_ ?_<;>simp only[go_sem,hL0]
 rintro⟨i,hi,_⟩
 try simp only at hi
 rcases aA i f.words.length with h1|h1
 ·have hls:=kL.out i h1;have hll2:=kl.out i;obtain⟨w,hwi⟩:∃w,f.words[i]=w:=⟨_,rfl⟩;rw[hwi]at hls;by_cases hin:w∈bd
  ·rw[aF hin]at hls
   repeat'(first|refine rq ?_|simp only[go_sem,h1,hwi,hin,bn,bh,Tryz.f74])
   refine⟨⟨i+1,ae,trivial⟩,af,?_⟩;refine bF ?_ ?_ ?_<;>simp only[go_sem,hls]
  ·rw[az hin]at hls
   repeat'(first|refine rq ?_|simp only[go_sem,h1,hwi,hin,bn,bh,Tryz.f74])
   refine⟨⟨i+1,ae,trivial⟩,af,?_⟩;refine bF ?_ ?_ ?_<;>simp only[go_sem,hls]
 ·obtain rfl:i=f.words.length:=ae
  by_cases hq:isQ f.kind
  case' pos=>
   have hb2:=kb.out;rw[aF hq]at hb2;unfold isQ at hq;have hq8:((f.kind=8)=True∧(f.kind=8)=True)∨((f.kind=8)=False∧(f.kind=9)=True):=by
    rcases hq with h|h
    ·exact .inl ⟨aU h,aU h⟩
    ·exact .inr ⟨aP ae,aU h⟩
   rcases hq8 with⟨h8,h9⟩|⟨h8,h9⟩
   all_goals
    repeat'(first|refine rq ?_|simp only[go_sem,h8,h9,hlw,aC,Tryz.f74])
   all_goals
    refine ru hm kT.out 74000 qWz zM ?_
    repeat'(first|apply au|refine rq ?_|refine rx (dZ qQb ai) ?_|simp only[go_sem,zM,hlw,Tryz.f74])
  case' neg=>
   have hb2:=kb.out;rw[az hq]at hb2;unfold isQ at hq;have h8:(f.kind=8)=False:=aP fun h=>hq (.inl h);have h9:(f.kind=9)=False:=aP fun h=>hq (.inr h)
   repeat'(first|refine rq ?_|simp only[go_sem,h8,h9,hlw,aC,Tryz.f74])
  all_goals
   refine cI hm kT.out 74000 qWz (ι:=eO f.subs.length fun _=>True)
    ⟨fun q=>⟨frL [(1,eS bd2),(2,eS (M q.i)),(3,.rp (qcF f)),(42,eI f.subs.length),(43,eI q.i)],hpL [],100⟩,fun q=>f.subs.length-q.i⟩
    ⟨0,ae,trivial⟩ ah ?_ ?_
   ·refine pj (CM (l:=[(1,.fz (.sl (bd2.map enc))),(2,.fz (.sl (lw.map enc))),(3,.rp [.i .i64 f.kind,.s f.name.l,.sl (f.words.map enc),.sl (f.subs.map enc)]),(42,.fz (.i .i64 f.subs.length)),(43,.fz (.i .i64 0))]) (by simp only[go_sem,←hb2,aE])) (bF ?_ ?_ ?_)<;>simp only[go_sem,hM0]
   rintro⟨j,hj,_⟩
   try simp only at hj
   rcases aA j f.subs.length with h2|h2
   ·have hms:=kM.out j h2;have hmn:=kN.out j h2;have hsz:=(kz.out _ (aT h2)).1;obtain⟨x,hx⟩:∃x,f.subs[j]=x:=⟨_,rfl⟩;rw[hx]at hms hmn hsz
    repeat'(first|refine rq ?_|refine rx ⟨hsz,hmn⟩ ?_|simp only[go_sem,h2,hx,hsz,bh,Tryz.f74])
    refine⟨⟨j+1,ae,trivial⟩,af,?_⟩;refine bF ?_ ?_ ?_<;>simp only[go_sem,hms]
   ·obtain rfl:j=f.subs.length:=ae
    repeat'(first|refine rq ?_|simp only[go_sem,aC,Tryz.f74])
def R8:Tbl:=R7.add 46 (sp1 (fun f=>iH f [] []) fun f=>f.fit=true∧f.size≤1000)
attribute [go_sem] R8
theorem hR8:b9 Tryz.prog GA R8:=by
 refine iD yh hR7 fun f hpre _=>?_;have hp:vA f [] []:=⟨hpre.1,by simp only[bj];omega,by simp only[bj];omega⟩;refine rv (N:=5) hm hR7 46000 qWi yh Tryz.func46 rfl ?_
 repeat'(first|refine rq ?_|apply rx hp|simp only[go_sem,Tryz.f46])
theorem OK {G:Nat→List FD}{N:Nat}{l:List (Nat×D)}{hl:List (Abs.Id×Option O)}{X:bR}{n:Nat}{id:Abs.Id}{t:Nat}{ys:List FD}{b:Bool}(ho:hpX hl X id=some ⟨ys.map .fz,b,false⟩)(hs:frL l t= .ptr id 0):
  gH G N ⟨frL l,hpX hl X,n⟩ ⟨frL ((t,.rp ys)::l),hpX ((id,none)::hl) X,n⟩:=by
 have:=gr (G:=G) (N:=N) (n:=n) ho hs;rw[AM]at this;exact this
def HM (k ga:Nat):List (Abs.Id×Option O):=[((32007,ga),some ⟨[.fz (.i .i64 k)],true,false⟩)]
theorem Ey (k:Nat):(n9 k).l=33::fV k:=rfl
theorem zZ (k:Nat):(x7 (k:Int)).l=fV k:=rfl
def EY:Tv:=(.q 0 (.q 1 (.q 3 (.q 7 (.q 8 (.q 10 (.r 4 (.q 5 (.br [(2,(.br [(6,(.br [(9,(.q 11 (.q 12 (.br [(13,(.q 14 (.q 15 .leaf)))])))),(11,(.q 12 (.br [(9,(.br [(13,(.q 14 (.q 15 .leaf)))]))])))])),(11,(.q 12 (.br [(6,(.br [(9,(.br [(13,(.q 14 (.q 15 .leaf)))]))]))])))])),(11,(.q 12 (.br [(2,(.br [(6,(.br [(9,(.br [(13,(.q 14 (.q 15 .leaf)))]))]))]))])))])))))))))
def D':Tv:=(.q 0 (.q 2 (.q 3 (.q 4 (.q 5 (.q 6 (.q 7 (.q 8 (.q 9 (.br [(1,(.br [(10,(.q 11 (.br [(12,(.q 13 (.br [(14,.leaf)])))])))])),(10,(.q 1 (.q 11 (.br [(12,(.q 13 (.br [(14,.leaf)])))]))))]))))))))))
set_option maxHeartbeats 8000000 in
theorem f49 {ga:Nat}:∀(s:Nat) (f:Abs.aH) (env:List cX) (k n:Nat) (X:bR),f.size≤s→(enc f).Wf→f.fit=true→ga<n→k+f.size≤1000000→env.length+f.size≤1000000→
  (∀id o,X id=some o→id.2<n∧id.1≠32007)→
  cS Tryz.prog GA 49 [.fz (enc f),.fz (enc (env.map (·.fr))),.fz (enc (env.map (·.to))),.ptr (32007,ga) 0] (hpX (HM k ga) X) n
   (fun d' H' n'=>d'= .fz (enc (ren bg f env k).1)∧n≤n'∧iO H' (HM (ren bg f env k).2 ga)∧∀id o,X id=some o→H' id=some o):=by
 intro s;induction s with
 |zero=>intro f env k n X hs;have:=f.size_pos;omega
 |succ s ih=>
  intro f env k n X hs hw hfit hga hk hel hX;obtain⟨Q,hQ⟩:∃Q:D→bR→Nat→Prop,Q=(fun d' H' n'=>d'= .fz (enc (ren bg f env k).1)∧n≤n'∧iO H' (HM (ren bg f env k).2 ga)∧∀id o,X id=some o→H' id=some o):=⟨_,rfl⟩;obtain⟨QQ,hQQ⟩:∃QQ:D→bR→Nat→Prop,QQ=(fun d' H' n'=>D.val d'=some (.fz (enc (ren bg f env k).1))∧n≤n'∧iO H' (HM (ren bg f env k).2 ga)∧∀id o,X id=some o→H' id=some o):=⟨_,rfl⟩;have hfin:∀d H m,QQ d H m→∃d' H' n',gH GA 1 ⟨frL [(0,d)],H,m⟩ ⟨frL [(0,d')],H',n'⟩∧Q d' H' n':=by rw[hQQ,hQ];rintro d H m ⟨h1,h2,h3,h4⟩;exact⟨_,H,m,Mh h1,rfl,h2,h3,h4⟩
  rw[←hQ];refine lj (Q:=QQ) ?_ hfin;clear hfin hQ;have hX':∀{l:List (Abs.Id×Option O)} (id o),X id=some o→(id.2<n∧id.1≠32007→rQ id l)→hpX l X id=some o:=fun id o h1 h2=>(oL (h2 (hX id o h1))).trans h1;obtain⟨hwl,hsl,hfs⟩:=aH.fit_eq hfit;have hsw:∀g∈f.subs,(enc g).Wf:=fun g hg=>oU (jh qQf (FD.sl (f.subs.map enc)) ak) _ (cR hg);have hss:∀g∈f.subs,g.size≤s∧g.fit=true:=fun g hg=>⟨qQn,aH.fits_mem hfs hg⟩;have hszs:f.size=aH.sizes f.subs+1:=by cases f;rw[aH.size];rfl
  have hreq:=@EQ bg f env k;obtain⟨olds,holds⟩:∃olds,env.map (·.fr)=olds:=⟨_,rfl⟩;obtain⟨news,hnews⟩:∃news,env.map (·.to)=news:=⟨_,rfl⟩;have hol:olds.length=env.length:=by rw[←holds,aG]
  have hnl:news.length=env.length:=by rw[←hnews,aG]
  have hog:∀p (h:p<env.length) (h2:p<olds.length) (h3:p<news.length),olds[p]=env[p].fr∧news[p]=env[p].to:=fun p h h2 h3=>by subst holds hnews;simp
  rw[holds,hnews];have kX:=Kp.mk @hX';have kQ:=Kp.mk hQQ;have kI:=Kp.mk ih;have kS:=Kp.mk hsw;have kZ:=Kp.mk hss;have kx:=Kp.mk hX;have kR:=Kp.mk hreq;have kO:=Kp.mk holds;have kN:=Kp.mk hnews;have kG:=Kp.mk hog;clear hX' hQQ ih hsw hss hX hfs hreq hw hfit holds hnews hog;refine rv (N:=105) hm hR8 49000 qW4 UQ Tryz.func49 rfl ?_
  repeat'(first|refine rq ?_|refine rx (dZ qQb ai) ?_|refine rq ?_|refine rx ⟨ae,ae⟩ ?_|simp only[go_sem,HM,Tryz.f49])
  refine cI hm hR8 49000 qW4 (ι:=xR f.words.length (n+5) n)
   ⟨fun q=>⟨frL [(1,eS olds),(2,eS news),(3,.ptr (32007,ga) 0),(4,.rp (qcF f)),(8,.ptr (49008,n+1) 0),(9,.ptr (49009,n+1+1) 0),
     (20,.fz (.sl (f.words.map enc))),(21,.fz (.i .i64 f.words.length)),(22,.fz (.i .i64 q.i))],
    hpX ([((49008,n+1),some ⟨[.fz (.i .i64 0),.fz (.s []),.full [],.full []],true,false⟩),
     ((49009,n+1+1),some ⟨[.fz (.i .i64 f.kind),.fz (.s f.name.l),.ow (49047,q.g) 1 (((f.words.take q.i).map (lkp env)).map enc),.ow (49101,n+1+1+1) 4 ([])],true,false⟩),
     ((49047,q.g),some tok),((49101,n+1+1+1),some tok)]++HM k ga) X,q.m⟩,fun q=>f.words.length-q.i⟩
   ⟨0,n+1+1+1+1,n+1+1+1+1+1,ae,ae,ae,ae⟩ ah ?_ ?_
  ·refine pj (OK (id:=(49004,n)) (t:=4) (b:=true) (ys:=[.i .i64 f.kind,.s f.name.l,.sl (f.words.map enc),.sl (f.subs.map enc)]) (by simp only[go_sem];try rfl) aj) ?_
   refine pj (yB 49101) (pj (yB 49047) (pj (yA (id:=(49009,n+1+1)) (id2:=(49047,n+1+1+1+1)) (es:=1) (k:=2) (xs:=[]) (b:=true) qQp ak qQi af)
    (pj (yA (id:=(49009,n+1+1)) (id2:=(49101,n+1+1+1)) (es:=4) (k:=3) (xs:=[]) (b:=true) qQp ak qQi af) ?_)))
   refine gT ?_ ?_ (fun id o ho=>?_) ?_
   ·simp only[go_sem]
   ·simp only[go_sem,HM]
   ·refine kX.out id o ho fun h1=>?_
    ((repeat'(first|exact trivial|apply au))<;>(rintro rfl;simp only at h1;omega))
   ·simp only[go_sem]
  rintro⟨i,g1,m1,hi,hg1,hm1,hgl⟩
  try simp only at hi hg1 hm1 hgl
  rcases aA i f.words.length with h1|h1
  ·obtain⟨w,hwi⟩:∃w,f.words[i]=w:=⟨_,rfl⟩;have e3:=aB h1;rw[hwi]at e3;have e4:((f.words.take (i+1)).map (lkp env))=((f.words.take i).map (lkp env))++[lkp env w]:=by rw[e3,aE];rfl
   have e5:((f.words.take i).map (lkp env)).length=i:=by rw[aG,aX];omega
   obtain⟨ws,hws⟩:∃ws,(f.words.take i).map (lkp env)=ws:=⟨_,rfl⟩;rw[hws]at e4 e5;obtain⟨v,hv⟩:∃v,lkp env w=v:=⟨_,rfl⟩;rw[hv]at e4;have k4:=Kp.mk e4;clear e4 e3
   repeat'(first|refine rq ?_|refine rx (dZ qQb ai) ?_|refine rq ?_|refine rx ⟨ae,ae⟩ ?_|simp only[go_sem,HM,h1,hwi,hws,bn,bh,Tryz.f49])
   refine cI hm hR8 49000 qW4 (ι:=Ft env w)
    ⟨fun q=>⟨frL [(1,eS olds),(2,eS news),(3,.ptr (32007,ga) 0),(4,.rp (qcF f)),(8,.ptr (49008,n+1) 0),(9,.ptr (49009,n+1+1) 0),
      (11,.fz (.s w.l)),(12,.fz (.i .i64 (q7 q.p))),(20,.fz (.sl (f.words.map enc))),(21,.fz (.i .i64 f.words.length)),(22,.fz (.i .i64 i))],
     hpX ([((49008,n+1),some ⟨[.fz (.i .i64 0),.fz (.s []),.full [],.full []],true,false⟩),
      ((49009,n+1+1),some ⟨[.fz (.i .i64 f.kind),.fz (.s f.name.l),.ow (49047,g1) 1 (ws.map enc),.ow (49101,n+1+1+1) 4 ([])],true,false⟩),
      ((49047,g1),some tok),((49101,n+1+1+1),some tok)]++HM k ga) X,m1⟩,fun q=>q.p⟩
    ⟨env.length,aI _,rfl⟩ ah ?_ ?_
   ·refine gT ?_ ?_ (fun id o ho=>?_) ?_
    ·simp only[go_sem,q7,hol]
    ·simp only[go_sem,HM]
    ·refine kX.out id o ho fun h1=>?_
     ((repeat'(first|exact trivial|apply au))<;>(rintro rfl;simp only at h1;omega))
    ·simp only[go_sem]
   rintro⟨p,hp,hl⟩
   try simp only at hp hl
   cases p with
   |zero=>
    have hvw:v=w:=by rw[←hv,hl,jR]
    repeat'(first|refine rq ?_|refine rx (dZ qQb ai) ?_|refine rq ?_|refine rx ⟨ae,ae⟩ ?_|simp only[go_sem,HM,h1,hwi,Lh,Tryz.f49])
    refine⟨⟨i+1,m1,m1+1,ae,ae,ae,ae⟩,af,?_⟩;refine gT ?_ ?_ (fun id o ho=>?_) ?_
    ·simp only[go_sem]
    ·simp only[go_sem,HM,k4.out,aE,hvw]
    ·refine kX.out id o ho fun h1=>?_
     ((repeat'(first|exact trivial|apply au))<;>(rintro rfl;simp only at h1;omega))
    ·simp only[go_sem]
   |succ p=>
    rw[jR]at hl;have hpg:env.getD p default=env[p]:=by rw[av,ay ae,bD]
    rw[hpg]at hl;have hpo:p<olds.length:=ae
    have hpn:p<news.length:=ae
    obtain⟨hg1',hg2'⟩:=kG.out p ae hpo hpn;rw[←hg1',←hg2']at hl;obtain⟨a,ha⟩:∃a,olds[p]=a:=⟨_,rfl⟩;obtain⟨b,hb⟩:∃b,news[p]=b:=⟨_,rfl⟩;rw[ha,hb]at hl;clear hg1' hg2' hpg;by_cases he:a=w
    ·rw[aF he,hv]at hl;have he':a.l=w.l:=by rw[he]
     repeat'(first|refine rq ?_|refine rx (dZ qQb ai) ?_|refine rq ?_|refine rx ⟨ae,ae⟩ ?_|simp only[go_sem,HM,h1,hpo,hpn,ha,hb,he',hwi,y4,bh,Tryz.f49])
     refine⟨⟨i+1,m1,m1+1,ae,ae,ae,ae⟩,af,?_⟩;refine gT ?_ ?_ (fun id o ho=>?_) ?_
     ·simp only[go_sem]
     ·simp only[go_sem,HM,k4.out,aE,hl]
     ·refine kX.out id o ho fun h1=>?_
      ((repeat'(first|exact trivial|apply au))<;>(rintro rfl;simp only at h1;omega))
     ·simp only[go_sem]
    ·rw[az he]at hl;have he':¬a.l=w.l:=fun e=>he (by cases a;cases w;simp only at e;rw[e])
     repeat'(first|refine rq ?_|refine rx (dZ qQb ai) ?_|refine rq ?_|refine rx ⟨ae,ae⟩ ?_|simp only[go_sem,HM,h1,hpo,hpn,ha,hb,he',hwi,y4,bh,Tryz.f49])
     refine⟨⟨p,ae,hl⟩,af,?_⟩;refine gT ?_ ?_ (fun id o ho=>?_) ?_
     ·simp only[go_sem,q7]
     ·simp only[go_sem,HM]
     ·refine kX.out id o ho fun h1=>?_
      ((repeat'(first|exact trivial|apply au))<;>(rintro rfl;simp only at h1;omega))
     ·simp only[go_sem]
  ·obtain rfl:i=f.words.length:=ae
   obtain⟨wl,hwl2⟩:∃wl,f.words.map (lkp env)=wl:=⟨_,rfl⟩;have hres:∃(env2:List cX) (nm2:Str) (k2:Nat),ren bg f env k=(.mk f.kind nm2 wl (dj bg f.subs env2 k2).1,(dj bg f.subs env2 k2).2)∧k2≤k+1∧env2.length≤env.length+1∧
     (isQ f.kind→env2=env++[⟨f.name,n9 k⟩]∧nm2=n9 k∧k2=k+1)∧(¬isQ f.kind→env2=env∧nm2=f.name∧k2=k):=by
    rw[kR.out];by_cases hq:isQ f.kind
    ·exact⟨_,_,_,by rw[aF hq,hwl2];rfl,ae,ak,fun _=>⟨rfl,rfl,rfl⟩,fun h=>absurd hq h⟩
    ·exact⟨_,_,_,by rw[az hq,hwl2],ae,ak,fun h=>absurd h hq,fun _=>⟨rfl,rfl,rfl⟩⟩
   obtain⟨env2,nm2,k2,hres,hk2,hel2,hq1,hq2⟩:=hres;have kW:=Kp.mk hres;have kq1:=Kp.mk hq1;have kq2:=Kp.mk hq2;clear hres hq1 hq2;obtain⟨A,hA⟩:∃A:Nat→List Abs.aH,A=fun j=>(dj bg (f.subs.take j) env2 k2).1:=⟨_,rfl⟩;obtain⟨K,hK⟩:∃K:Nat→Nat,K=fun j=>(dj bg (f.subs.take j) env2 k2).2:=⟨_,rfl⟩;have hA0:A 0=[]:=by rw[hA];simp[dj]
   have hK0:K 0=k2:=by rw[hK];simp[dj]
   have hAs:∀j (h:j<f.subs.length),A (j+1)=A j++[(ren bg f.subs[j] env2 (K j)).1]∧K (j+1)=(ren bg f.subs[j] env2 (K j)).2:=fun j h=>by rw[hA,hK];simp only[aB h,Dk,dj];constructor<;>first|rfl|trivial
   have hAl:∀j,(A j).length≤j:=fun j=>by rw[hA];simp only[rI,aX];omega
   have hKb:∀j (h:j<f.subs.length),K j+f.subs[j].size≤1000000:=fun j h=>by have h6:=((rT xO).2 (f.subs.take j) env2 k2).2;have h7:=wK h;rw[hK];simp only;omega
   have hAe:A f.subs.length=(dj bg f.subs env2 k2).1∧K f.subs.length=(dj bg f.subs env2 k2).2:=by rw[hA,hK];simp only[aJ];first|trivial|(constructor<;>first|rfl|trivial)
   obtain⟨olds2,ho2⟩:∃olds2,env2.map (·.fr)=olds2:=⟨_,rfl⟩;obtain⟨news2,hn2⟩:∃news2,env2.map (·.to)=news2:=⟨_,rfl⟩;have kA:=Kp.mk hAs;have kB:=Kp.mk hAl;have kC:=Kp.mk hKb;have kE:=Kp.mk hAe;have ko2:=Kp.mk ho2;have kn2:=Kp.mk hn2;clear hAs hAl hKb hAe hA hK ho2 hn2;by_cases hq:isQ f.kind
   case' pos=>
    obtain⟨q1,q2,q3⟩:=kq1.out hq;have hdl:=ta k;unfold isQ at hq;have o2:olds2=olds++[f.name]:=by rw[←ko2.out,q1,aE,kO.out];rfl
    have n2:news2=news++[n9 k]:=by rw[←kn2.out,q1,aE,kN.out];rfl
    have hq8:((f.kind=8)=True∧(f.kind=8)=True)∨((f.kind=8)=False∧(f.kind=9)=True):=by
     rcases hq with h|h
     ·exact .inl ⟨aU h,aU h⟩
     ·exact .inr ⟨aP ae,aU h⟩
    rcases hq8 with⟨h8,h9⟩|⟨h8,h9⟩
    all_goals
     repeat'(first|refine rq ?_|refine rx (dZ qQb ai) ?_|refine rq ?_|refine rx ⟨ae,ae⟩ ?_|simp only[go_sem,HM,h8,h9,aC,aJ,hwl2,bn,zZ,Tryz.f49])
     refine Ri (ι:=Unit) (fun _=>⟨frL [(1,eS olds2),(2,eS news2),(3,.ptr (32007,ga) 0),(4,.rp (qcF f)),(8,.ptr (49008,n+1) 0),(9,.ptr (49009,n+1+1) 0)],
       hpX ([((49008,n+1),some ⟨[.fz (.i .i64 0),.fz (.s []),.full [],.full []],true,false⟩),
        ((49009,n+1+1),some ⟨[.fz (.i .i64 f.kind),.fz (.s nm2.l),.ow (49047,g1) 1 (wl.map enc),.ow (49101,n+1+1+1) 4 ([])],true,false⟩),
        ((49101,n+1+1+1),some tok)]++HM k2 ga) X,m1+100⟩) (fun _=>?_) ?_
     rotate_left
     ·refine ru hm hR8 49000 qW4 EY ?_
      repeat'(first|apply au|refine rq ?_|refine rx (dZ qQb ai) ?_|refine rq ?_|refine rx ⟨ae,ae⟩ ?_|simp only[go_sem,HM,EY,zZ,Tryz.f49])
      all_goals
       refine⟨(),?_⟩;refine pj (CM (l:=[(1,.fz (.sl (olds2.map enc))),(2,.fz (.sl (news2.map enc))),(3,.ptr (32007,ga) 0),(4,.rp [.i .i64 f.kind,.s f.name.l,.sl (f.words.map enc),.sl (f.subs.map enc)]),(8,.ptr (49008,n+1) 0),(9,.ptr (49009,n+1+1) 0)]) (by simp only[go_sem,o2,n2,Ey,aE])) ?_;refine gT ?_ ?_ (fun id o ho=>?_) ?_
       ·simp only[go_sem]
       ·simp only[go_sem,HM,q2,q3,Ey]
       ·refine kX.out id o ho fun h1=>?_
        ((repeat'(first|exact trivial|apply au))<;>(rintro rfl;simp only at h1;omega))
       ·(try simp only[go_sem]);omega
     repeat'(first|refine rq ?_|refine rx (dZ qQb ai) ?_|refine rq ?_|refine rx ⟨ae,ae⟩ ?_|simp only[go_sem,HM,bn,Tryz.f49])
   case' neg=>
    obtain⟨q1,q2,q3⟩:=kq2.out hq;unfold isQ at hq;have o2:olds2=olds:=by rw[←ko2.out,q1,kO.out]
    have n2:news2=news:=by rw[←kn2.out,q1,kN.out]
    have h8:(f.kind=8)=False:=aP fun h=>hq (.inl h);have h9:(f.kind=9)=False:=aP fun h=>hq (.inr h)
    repeat'(first|refine rq ?_|refine rx (dZ qQb ai) ?_|refine rq ?_|refine rx ⟨ae,ae⟩ ?_|simp only[go_sem,HM,h8,h9,aC,aJ,hwl2,bn,Tryz.f49])
   all_goals
    refine cI hm hR8 49000 qW4 (ι:=xR f.subs.length (n+5) n)
     ⟨fun q=>⟨frL [(1,eS olds2),(2,eS news2),(3,.ptr (32007,ga) 0),(4,.rp (qcF f)),(8,.ptr (49008,n+1) 0),(9,.ptr (49009,n+1+1) 0),(85,eI f.subs.length),(86,eI q.i)],
      hpX ([((49008,n+1),some ⟨[.fz (.i .i64 0),.fz (.s []),.full [],.full []],true,false⟩),
       ((49009,n+1+1),some ⟨[.fz (.i .i64 f.kind),.fz (.s nm2.l),.ow (49047,g1) 1 (wl.map enc),.ow (49101,q.g) 4 ((A q.i).map enc)],true,false⟩),
       ((49101,q.g),some tok)]++HM (K q.i) ga) X,q.m⟩,fun q=>f.subs.length-q.i⟩
     ⟨0,n+1+1+1,m1+100,ae,ae,ae,ae⟩ ah ?_ ?_
    ·refine gT ?_ ?_ (fun id o ho=>?_) ?_
     ·simp only[go_sem,o2,n2]
     ·simp only[go_sem,HM,hA0,hK0,q2,q3]
     ·refine kX.out id o ho fun h1=>?_
      ((repeat'(first|exact trivial|apply au))<;>(rintro rfl;simp only at h1;omega))
     ·(try simp only[go_sem]);(try omega)
    rintro⟨j,g2,m2,hj,hg2,hm2,hgl2⟩
    try simp only at hj hg2 hm2 hgl2
    rcases aA j f.subs.length with h2|h2
    ·have hmem:=aT h2;obtain⟨x,hx⟩:∃x,f.subs[j]=x:=⟨_,rfl⟩;have hz:=kZ.out _ hmem;have hwx:=kS.out _ hmem;have hAj:=kA.out j h2;have hKj:=kC.out j h2;have hAlj:=kB.out j;rw[hx]at hz hwx hAj hKj;obtain⟨y,hy⟩:∃y,(ren bg x env2 (K j)).1=y:=⟨_,rfl⟩;obtain⟨kj,hkj⟩:∃kj,(ren bg x env2 (K j)).2=kj:=⟨_,rfl⟩;rw[hy,hkj]at hAj;have hlx:=aH.size_mem (l:=f.subs) hmem;rw[hx]at hlx
     have ih2:∀(m3:Nat),m2≤m3→_:=fun m3 hm3=>kI.out x env2 (K j) m3 (hpX [((49008,n+1),some ⟨[.fz (.i .i64 0),.fz (.s []),.full [],.full []],true,false⟩),
       ((49009,n+1+1),some ⟨[.fz (.i .i64 f.kind),.fz (.s nm2.l),.ow (49047,g1) 1 (wl.map enc),.ow (49101,g2) 4 ((A j).map enc)],true,false⟩),((49101,g2),some tok)] X) hz.1 hwx hz.2 ae ae ae (by
      intro id o ho;simp only[hpX]at ho;split at ho
      ·rename_i e;subst e;simp only;omega
      split at ho
      ·rename_i e;subst e;simp only;omega
      split at ho
      ·rename_i e;subst e;simp only;omega
      ·have:=kx.out id o ho;omega)
     simp only[hy,hkj]at ih2;rw[jf (f:=x),ko2.out,kn2.out]at ih2;obtain⟨fy,hfy⟩:∃fy,enc y=fy:=⟨_,rfl⟩;have hcy:fy.cells.length=4:=by rw[←hfy,jf];rfl
     have hff:(bA [fy]).all fh=true:=by rw[←hfy];have h9:=@IH [y];exact aU h9▸h9
     repeat'(first|refine rq ?_|refine rx (dZ qQb ai) ?_|refine rq ?_|refine rx ⟨ae,ae⟩ ?_|simp only[go_sem,HM,h2,hx,bh,Tryz.f49])
     refine ru hm hR8 49000 qW4 D' ?_
     repeat'(first|apply au|refine rq ?_|refine rx (dZ qQb ai) ?_|refine rq ?_|refine rx ⟨ae,ae⟩ ?_|simp only[go_sem,HM,D',h2,hx,bh,Tryz.f49])
     all_goals
      refine dJ.i (qo qQl (by simp only[go_sem,HM]) (fun id o ho=>?_) (aI _) (jl (ih2 _ ae) ?_))
      ·simp only[hpX]at ho;split at ho
       ·rename_i e;subst e;simp only[go_sem];exact bq ho
       split at ho
       ·rename_i e;subst e;simp only[go_sem];exact bq ho
       split at ho
       ·rename_i e;subst e;simp only[go_sem];exact bq ho
       ·refine kX.out id o ho fun h1=>?_
        ((repeat'(first|exact trivial|apply au))<;>(rintro rfl;simp only at h1;omega))
      rintro d' H' n' ⟨rfl,e1,e2,e3⟩;have c6:=e3 (49008,n+1) ⟨[.fz (.i .i64 0),.fz (.s []),.full [],.full []],true,false⟩ aj;have c7:=e3 (49009,n+1+1) ⟨[.fz (.i .i64 f.kind),.fz (.s nm2.l),.ow (49047,g1) 1 (wl.map enc),.ow (49101,g2) 4 ((A j).map enc)],true,false⟩ aj;have c8:=e3 (49101,g2) tok aj;have hX2:∀id o,X id=some o→H' id=some o:=fun id o ho=>e3 id o (kX.out id o ho fun h1=>by
       ((repeat'(first|exact trivial|apply au))<;>(rintro rfl;simp only at h1;omega)))
      clear e3;simp only[go_sem,HM]at e2;have c1:=e2;rw[show H'=hpX [] H' from rfl];rw[hfy]
      repeat'(first|refine rq ?_|refine rx (dZ qQb ai) ?_|refine rq ?_|refine rx ⟨ae,ae⟩ ?_|simp only[go_sem,HM,D',c1,c6,c7,c8,h2,hcy,hff,Tryz.f49])
      refine⟨⟨j+1,n',n'+1,ae,ae,ae,ae⟩,af,?_⟩;refine gT ?_ ?_ (fun id o ho=>?_) ?_
      ·simp only[go_sem]
      ·simp only[go_sem,HM,c1,c6,c7,c8,hAj.1,hAj.2,hfy,aE]
      ·have h1:=kx.out id o ho;refine(oL ?_).trans (hX2 id o ho)
       ((repeat'(first|exact trivial|apply au))<;>(rintro rfl;simp only at h1;omega))
      ·simp only[go_sem]
    ·obtain rfl:j=f.subs.length:=ae
     have hE:=kE.out
     repeat'(first|refine rq ?_|refine rx (dZ qQb ai) ?_|refine rq ?_|refine rx ⟨ae,ae⟩ ?_|simp only[go_sem,HM,aC,Tryz.f49])
     rw[kQ.out,kW.out];refine⟨?_,ae,?_,fun id o ho=>kX.out id o ho fun h1=>?_⟩
     ·rw[←hE.1];simp only[go_sem]
     ·rw[←hE.2];simp only[go_sem,HM]
     ·((repeat'(first|exact trivial|apply au))<;>(rintro rfl;simp only at h1;omega))
end Go.Proofs.YtnijhilfchekkaaGreatDoor
namespace Go.Abs
open Go
theorem S8 {fr to:List Str}{f:Abs.aH}:swp fr to f= .mk f.kind (if isQ f.kind then iu fr to f.name else f.name) (f.words.map (iu fr to)) (f.subs.map (swp fr to)):=by cases f;rw[swp,MG];rfl
theorem Ly {fr to:List Str}{w:Str}{i:Nat}(h1:i<fr.length)(h2:i<to.length)(he:fr[i]=w):iu (fr.drop i) (to.drop i) w=to[i]:=by rw[aR h1,aR h2];unfold iu;rw[aF he]
theorem JO {fr to:List Str}{w:Str}{i:Nat}(h1:i<fr.length)(h2:i<to.length)(he:¬fr[i]=w):iu (fr.drop i) (to.drop i) w=iu (fr.drop (i+1)) (to.drop (i+1)) w:=by
 rw[aR h1,aR h2];conv=>lhs;unfold iu
 rw[az he]
theorem Lx {fr to:List Str}{w:Str}{i:Nat}(h:fr.length≤i):iu (fr.drop i) (to.drop i) w=w:=by rw[de h];unfold iu;rfl
end Go.Abs
namespace Go.Proofs.YtnijhilfchekkaaGreatDoor
open Go Go.Abs Go.Proofs
def zI:Tv:=(.q 0 (.q 1 (.q 2 (.q 3 (.q 4 (.q 5 (.q 6 .leaf)))))))
def Of:Tv:=(.q 0 (.q 1 (.q 2 (.q 3 (.q 4 (.q 5 (.q 6 (.q 7 (.q 8 (.q 9 (.q 10 (.br [(11,(.q 12 (.br [(13,.leaf)])))]))))))))))))
def D9 (f:Abs.aH)(fr to:List Str):Prop:=f.fit=true∧fr.length=to.length
def R9:Tbl:=R8.add 51 (sp3 (fun f fr to=>swp fr to f) D9)
attribute [go_sem] R9
set_option maxHeartbeats 8000000 in
theorem hR9:b9 Tryz.prog GA R9:=by
 refine DH aH.size G8 hR8 fun n hT f fr to hn hpre hw hwf hwt=>?_;obtain⟨hfit,hlen⟩:=hpre;have la:=iN hwf;simp only[aG,dt]at la;obtain⟨hwl,hsl,hfs⟩:=aH.fit_eq hfit;have hsz:∀g∈f.subs,g.size<n∧D9 g fr to:=fun g hg=>⟨qQn,aH.fits_mem hfs hg,hlen⟩;obtain⟨nm2,hnm2⟩:∃nm2,(if isQ f.kind then iu fr to f.name else f.name)=nm2:=⟨_,rfl⟩;obtain⟨wl,hwl2⟩:∃wl,f.words.map (iu fr to)=wl:=⟨_,rfl⟩;obtain⟨A,hA⟩:∃A:Nat→List Abs.aH,A=fun j=>(f.subs.take j).map (swp fr to):=⟨_,rfl⟩;have hA0:A 0=[]:=by rw[hA];rfl
 have hAs:∀j (h:j<f.subs.length),A (j+1)=A j++[swp fr to f.subs[j]]:=fun j h=>by rw[hA];simp only[aB h,aE,aM,aQ]
 have hAl:∀j,(A j).length≤f.subs.length:=fun j=>by rw[hA];simp only[aG,aX];omega
 have hres:swp fr to f= .mk f.kind nm2 wl (A f.subs.length):=by rw[S8,hnm2,hwl2,hA];simp only[aJ]
 rw[hres];have kT:=Kp.mk hT;have kz:=Kp.mk hsz;have kn:=Kp.mk hnm2;have kA:=Kp.mk hAs;have kL:=Kp.mk hAl;clear hT hsz hnm2 hAs hAl hA hres hw hwf hwt hfit hfs hn;refine rv (N:=95) hm kT.out 51000 qW0 G8 Tryz.func51 rfl ?_
 repeat'(first|refine rq ?_|refine rx (dZ qQb ai) ?_|refine rq ?_|simp only[go_sem,Tryz.f51])
 refine fa (gr (id:=(51003,0)) (t:=3) (b:=true) (ys:=[.i .i64 f.kind,.s f.name.l,.sl (f.words.map enc),.sl (f.subs.map enc)]) aj aj) ?_
 refine cI hm kT.out 51000 qW0 (ι:=jL f.words.length 5 fun _=>True)
  ⟨fun q=>⟨frL [(1,eS fr),(2,eS to),(3,.rp (qcF f)),(6,.ptr (51006,1) 0),(7,.ptr (51007,2) 0),(19,eS f.words),(20,eI f.words.length),(21,eI q.i)],
   hpL [((51006,1),some ⟨[eI 0,.fz (.s []),.full [],.full []],true,false⟩),((51007,2),some ⟨[eI f.kind,.fz (.s f.name.l),.ow (51045,q.g) 1 (((f.words.take q.i).map (iu fr to)).map enc),.ow (51091,3) 4 ([])],true,false⟩),((51045,q.g),some tok),((51091,3),some tok)],q.m⟩,fun q=>f.words.length-q.i⟩
  ⟨0,4,5,ae,ae,ae,trivial⟩ ah ?_ ?_
 ·refine eX [] [(51091,3),(51045,4)] [] ?_ ?_ ?_ ?_ ?_<;>simp only[go_sem]
  all_goals first|rfl
 rintro⟨i,g1,m1,hi,hg1,hm1,_⟩
 try simp only at hi hg1 hm1
 rcases aA i f.words.length with h1|h1
 ·obtain⟨w,hwi⟩:∃w,f.words[i]=w:=⟨_,rfl⟩;have e4:((f.words.take (i+1)).map (iu fr to))=((f.words.take i).map (iu fr to))++[iu fr to w]:=by rw[aB h1,hwi,aE];rfl
  have e5:((f.words.take i).map (iu fr to)).length=i:=by rw[aG,aX];omega
  obtain⟨ws,hws⟩:∃ws,(f.words.take i).map (iu fr to)=ws:=⟨_,rfl⟩;rw[hws]at e4 e5;obtain⟨v,hv⟩:∃v,iu fr to w=v:=⟨_,rfl⟩;rw[hv]at e4
  repeat'(first|refine rq ?_|refine rx (dZ qQb ai) ?_|refine rq ?_|simp only[go_sem,h1,hwi,hws,bn,bh,Tryz.f51])
  refine cI hm kT.out 51000 qW0 (ι:=eO fr.length fun p=>v=iu (fr.drop p) (to.drop p) w)
   ⟨fun q=>⟨frL [(1,eS fr),(2,eS to),(3,.rp (qcF f)),(6,.ptr (51006,1) 0),(7,.ptr (51007,2) 0),(9,.fz (.s w.l)),(19,eS f.words),(20,eI f.words.length),(21,eI i),(26,eI fr.length),(27,eI q.i)],
    hpL [((51006,1),some ⟨[eI 0,.fz (.s []),.full [],.full []],true,false⟩),((51007,2),some ⟨[eI f.kind,.fz (.s f.name.l),.ow (51045,g1) 1 (ws.map enc),.ow (51091,3) 4 ([])],true,false⟩),((51045,g1),some tok),((51091,3),some tok)],m1⟩,fun q=>fr.length-q.i⟩
   ⟨0,ae,hv.symm⟩ ah ?_ ?_
  ·refine bF ?_ ?_ ?_<;>simp only[go_sem]
  rintro⟨p,hp,hl⟩
  try simp only at hp hl
  rcases aA p fr.length with h2|h2
  ·have h3:p<to.length:=ae
   by_cases he:fr[p]=w
   ·have hl2:=hl.trans (Ly h2 h3 he);have he':fr[p].l=w.l:=by rw[he]
    repeat'(first|refine rq ?_|refine rx (dZ qQb ai) ?_|refine rq ?_|simp only[go_sem,h1,h2,h3,he',hwi,bh,Tryz.f51])
    refine⟨⟨i+1,m1,m1+1,ae,ae,ae,trivial⟩,af,?_⟩;refine bF ?_ ?_ ?_<;>simp only[go_sem,e4,aE,hl2]
   ·have hl2:=hl.trans (JO h2 h3 he);have he':¬fr[p].l=w.l:=fun e=>he (by cases h7:fr[p];cases w;rw[h7]at e;simp only at e;rw[e])
    repeat'(first|refine rq ?_|refine rx (dZ qQb ai) ?_|refine rq ?_|simp only[go_sem,h1,h2,h3,he',hwi,bh,Tryz.f51])
    refine⟨⟨p+1,ae,hl2⟩,af,?_⟩;refine bF ?_ ?_ ?_<;>simp only[go_sem]
  ·obtain rfl:p=fr.length:=ae
   have hl2:=hl.trans (Lx (aI _))
   repeat'(first|refine rq ?_|refine rx (dZ qQb ai) ?_|refine rq ?_|simp only[go_sem,h1,aC,hwi,Tryz.f51])
   refine⟨⟨i+1,m1,m1+1,ae,ae,ae,trivial⟩,af,?_⟩;refine bF ?_ ?_ ?_<;>simp only[go_sem,e4,aE,hl2]
 ·obtain rfl:i=f.words.length:=ae
  by_cases hq:isQ f.kind
  case' pos=>
   have hn2:=kn.out;rw[aF hq]at hn2;unfold isQ at hq;have hq8:((f.kind=8)=True∧(f.kind=8)=True)∨((f.kind=8)=False∧(f.kind=9)=True):=by
    rcases hq with h|h
    ·exact .inl ⟨aU h,aU h⟩
    ·exact .inr ⟨aP ae,aU h⟩
   rcases hq8 with⟨h8,h9⟩|⟨h8,h9⟩
   all_goals
    repeat'(first|refine rq ?_|refine rx (dZ qQb ai) ?_|refine rq ?_|simp only[go_sem,h8,h9,aC,aJ,hwl2,bn,Tryz.f51])
    refine cI hm kT.out 51000 qW0 (ι:=eO fr.length fun p=>nm2=iu (fr.drop p) (to.drop p) f.name)
     ⟨fun q=>⟨frL [(1,eS fr),(2,eS to),(3,.rp (qcF f)),(6,.ptr (51006,1) 0),(7,.ptr (51007,2) 0),(57,eI fr.length),(58,eI q.i)],
      hpL [((51006,1),some ⟨[eI 0,.fz (.s []),.full [],.full []],true,false⟩),((51007,2),some ⟨[eI f.kind,.fz (.s f.name.l),.ow (51045,g1) 1 (wl.map enc),.ow (51091,3) 4 ([])],true,false⟩),((51091,3),some tok)],m1⟩,fun q=>fr.length-q.i⟩
     ⟨0,ae,hn2.symm⟩ ah ?_ ?_
    ·refine bF ?_ ?_ ?_<;>simp only[go_sem]
    rintro⟨p,hp,hl⟩
    try simp only at hp hl
    rcases aA p fr.length with h2|h2;have h3:p<to.length:=ae
    by_cases he:fr[p]=f.name
    case' pos=>
     have hl2:=hl.trans (Ly h2 h3 he);have he':fr[p].l=f.name.l:=by rw[he]
     repeat'(first|refine rq ?_|refine rx (dZ qQb ai) ?_|refine rq ?_|simp only[go_sem,h2,h3,he',bh,Tryz.f51])
     refine ru hm kT.out 51000 qW0 zI ?_
     repeat'(first|apply au|refine rq ?_|refine rx (dZ qQb ai) ?_|refine rq ?_|simp only[go_sem,zI,h2,h3,he',bh,Tryz.f51])
    case neg=>
     have hl2:=hl.trans (JO h2 h3 he);have he':¬fr[p].l=f.name.l:=fun e=>he (by cases h7:fr[p];cases h8:f.name;rw[h7,h8]at e;simp only at e;rw[e])
     repeat'(first|refine rq ?_|refine rx (dZ qQb ai) ?_|refine rq ?_|simp only[go_sem,h2,h3,he',bh,Tryz.f51])
     refine ru hm kT.out 51000 qW0 zI ?_
     repeat'(first|apply au|refine rq ?_|refine rx (dZ qQb ai) ?_|refine rq ?_|simp only[go_sem,zI,h2,h3,he',bh,Tryz.f51])
     refine⟨⟨p+1,ae,hl2⟩,af,?_⟩;refine bF ?_ ?_ ?_<;>simp only[go_sem]
    case' inr=>
     obtain rfl:p=fr.length:=ae
     have hl2:=hl.trans (Lx (aI _))
     repeat'(first|refine rq ?_|refine rx (dZ qQb ai) ?_|refine rq ?_|simp only[go_sem,aC,Tryz.f51])
  case' neg=>
   have hl2:=kn.out.symm;rw[az hq]at hl2;unfold isQ at hq;have h8:(f.kind=8)=False:=aP fun h=>hq (.inl h);have h9:(f.kind=9)=False:=aP fun h=>hq (.inr h)
   repeat'(first|refine rq ?_|refine rx (dZ qQb ai) ?_|refine rq ?_|simp only[go_sem,h8,h9,aC,aJ,hwl2,bn,Tryz.f51])
  all_goals
   refine cI hm kT.out 51000 qW0 (ι:=jL f.subs.length 5 fun _=>True)
    ⟨fun q=>⟨frL [(1,eS fr),(2,eS to),(3,.rp (qcF f)),(6,.ptr (51006,1) 0),(7,.ptr (51007,2) 0),(76,eI f.subs.length),(77,eI q.i)],
     hpL [((51006,1),some ⟨[eI 0,.fz (.s []),.full [],.full []],true,false⟩),((51007,2),some ⟨[eI f.kind,.fz (.s nm2.l),.ow (51045,g1) 1 (wl.map enc),.ow (51091,q.g) 4 ((A q.i).map enc)],true,false⟩),((51091,q.g),some tok)],q.m⟩,fun q=>f.subs.length-q.i⟩
    ⟨0,3,m1+10,ae,ae,ae,trivial⟩ ah ?_ ?_
   ·refine bF ?_ ?_ ?_<;>(try simp only[go_sem,hA0,hl2])
    all_goals first|omega
   rintro⟨j,g2,m2,hj,hg2,hm2,_⟩
   try simp only at hj hg2 hm2
   rcases aA j f.subs.length with h2|h2
   ·have hms:=kA.out j h2;have hml:=kL.out j;have hsz:=kz.out _ (aT h2);obtain⟨x,hx⟩:∃x,f.subs[j]=x:=⟨_,rfl⟩;rw[hx]at hms hsz
    repeat'(first|apply rx hsz|refine rq ?_|refine rx (dZ qQb ai) ?_|refine rq ?_|simp only[go_sem,h2,hx,bh,Tryz.f51])
    refine ru hm kT.out 51000 qW0 Of ?_
    repeat'(first|apply au|apply rx hsz|refine rq ?_|refine rx (dZ qQb ai) ?_|refine rq ?_|simp only[go_sem,Of,h2,hx,bh,Tryz.f51])
    all_goals
     refine⟨⟨j+1,m2,m2+10,ae,ae,ae,trivial⟩,af,?_⟩;refine bF ?_ ?_ ?_<;>(try simp only[go_sem,hms,aE])
     all_goals first|omega
   ·obtain rfl:j=f.subs.length:=ae
    repeat'(first|refine rq ?_|refine rx (dZ qQb ai) ?_|refine rq ?_|simp only[go_sem,aC,Tryz.f51])
theorem Fg:∀{fr to:List Str},fr.length=to.length→(List.zipWith Abs.cX.mk fr to).map (·.fr)=fr∧(List.zipWith Abs.cX.mk fr to).map (·.to)=to
 |[],[],_=>⟨rfl,rfl⟩
 |a::fr,b::to,h=>by have:=Fg (fr:=fr) (to:=to) qQh;simp only[gh,aM,this.1,this.2,and_self]
theorem Yg (i:Nat):lN (i+1)=lN i++[n9 i]:=by unfold lN;rw[fC,aE];rfl
theorem Yf (us:List Str)(i:Nat):lY us (i+1)=lY us i++[gA (iy us (ctr us 0 i))]:=by unfold lY;rw[fC,aE];rfl
theorem YZ (i:Nat):(lN i).length=i:=by unfold lN;rw[aG,mJ]
theorem YV (us:List Str)(i:Nat):(lY us i).length=i:=by unfold lY;rw[aG,mJ]
theorem ED (us:List Str):∀i,ctr us 0 i≤i*(us.length+1)
 |0=>by simp[ctr]
 |i+1=>by rw[zb,ci,jZ];have h1:=ED us i;have h2:=(mS us (ctr us 0 i)).2.1;omega
structure Tq (len n0:Nat) where
 i:Nat
 g1:Nat
 g2:Nat
 m:Nat
 hi:i≤len
 h1:g1<m
 h2:g2<m
 hm:n0≤m
structure Ur (us:List Str)(k0:Nat) where
 k:Nat
 hk:k0≤k
 h:iy us k=iy us k0
def Aa (f:Abs.aH)(fr to:List Str):Prop:=f.fit=true∧f.size≤1000∧fr.length=to.length∧fr.length≤1000
def R10:Tbl:=R9.add 32 (sp3 (fun f fr to=>li f (List.zipWith Abs.cX.mk fr to)) Aa)
attribute [go_sem] R10
set_option maxHeartbeats 8000000 in
theorem Gn:b9 Tryz.prog GA R10:=by
 refine oT GZ hR9 fun f fr to hpre hw _ _=>?_;obtain⟨hfit,hsz,hlen,hle⟩:=hpre;obtain⟨z1,z2⟩:=Fg hlen;obtain⟨env,henv⟩:∃env,List.zipWith Abs.cX.mk fr to=env:=⟨_,rfl⟩;rw[henv]at z1 z2 ⊢;have hel:env.length≤1000:=by rw[←z1,aG]at hle;exact hle
 have h183:=f49 (ga:=2) f.size f env 0 3 (hpL [((32006,1),some ⟨[.fz (.i .i64 0),.fz (.s []),.full [],.full []],true,false⟩)]) (aI _) hw hfit ae ae ae (fun id o ho=>by
  simp only[hpL]at ho;split at ho
  ·rename_i e;subst e;simp only;omega
  ·cases ho)
 rw[z1,z2]at h183;obtain⟨g,hg⟩:∃g,(ren bg f env 0).1=g:=⟨_,rfl⟩;obtain⟨c2,hc2⟩:∃c2,(ren bg f env 0).2=c2:=⟨_,rfl⟩;have hc2l:c2≤1000:=by have:=((rT xO).1 f env 0).2;omega
 have hgs:g.size≤1000:=by rw[←hg,Di];exact hsz
 have hgf:g.fit=true:=by rw[←hg,DD];exact hfit
 obtain⟨us,hus⟩:∃us,iH g [] []=us:=⟨_,rfl⟩;have hul:us.length≤1000000:=by have:=LX g [] [] hgf;rw[hus]at this;simp only[bj]at this;omega
 have hres:li f env=swp (lN c2) (lY us c2) g:=by unfold li tZ tS;rw[hg,hc2,hus]
 obtain⟨r,hr⟩:∃r,swp (lN c2) (lY us c2) g=r:=⟨_,rfl⟩;rw[hres,hr];rw[hg,hc2]at h183;rw[jf (f:=f)]at h183;clear hres z1 z2 henv hlen hg hc2 hw;refine rv (N:=62) hm hR9 32000 qXb GZ Tryz.func32 rfl ?_
 repeat'(first|refine rq ?_|refine rx (dZ qQb ai) ?_|refine rq ?_|refine rx ⟨ae,ae⟩ ?_|simp only[go_sem,Tryz.f32])
 refine dJ.i (qw rfl (qo qQl (by simp only[go_sem,HM];try rfl) (fun id o ho=>?_) (aI _) (jl h183 ?_)))
 ·simp only[hpL]at ho;split at ho
  ·rename_i e;subst e;simp only[go_sem];exact bq ho
  ·cases ho
 rintro d' H' n1 ⟨rfl,e1,e2,e3⟩;have b6:=e3 (32006,1) ⟨[.fz (.i .i64 0),.fz (.s []),.full [],.full []],true,false⟩ aj;simp only[go_sem,HM]at e2;have b7:=e2;clear e3 e2;rw[show H'=hpX [] H' from rfl,jf (f:=g)]
 repeat'(first|refine rx ⟨hgf,hgs⟩ ?_|refine rq ?_|refine rx (dZ qQb ai) ?_|refine rq ?_|refine rx ⟨ae,ae⟩ ?_|simp only[go_sem,b6,b7,hgf,hgs,hus,bt,Tryz.f32])
 refine fa (bF (l:=[(6,.ptr (32006,1) 0),(7,.ptr (32007,2) 0),(8,.ptr (32008,n1) 0),(9,.full []),(21,.fz (.sl (us.map enc))),(22,.fz (.i .i64 us.length)),(23,.fz (.i .i64 0))]) (hl:=[((32006,1),some ⟨[.fz (.i .i64 0),.fz (.s []),.full [],.full []],true,false⟩),((32007,2),some ⟨[.fz (.i .i64 (c2:Nat))],true,false⟩),((32008,n1),some ⟨[.fz (.i .i64 g.kind),.fz (.s g.name.l),.fz (.sl (g.words.map enc)),.fz (.sl (g.subs.map enc))],true,false⟩)]) (n:=n1+1) ?_ ?_ ?_) ?_
 ·simp only[go_sem]
 ·simp only[go_sem,b6,b7]
 ·simp only[go_sem]
 clear b6 b7
 refine cI hm hR9 32000 qXb (ι:=jL us.length (n1+2) fun _=>True)
  ⟨fun q=>⟨frL [(6,.ptr (32006,1) 0),(7,.ptr (32007,2) 0),(8,.ptr (32008,n1) 0),(9,.ow (32030,q.g) 1 ((us.take q.i).map enc)),(21,eS us),(22,eI us.length),(23,eI q.i)],
   hpL [((32006,1),some ⟨[eI 0,.fz (.s []),.full [],.full []],true,false⟩),((32007,2),some ⟨[eI (c2:Nat)],true,false⟩),((32008,n1),some ⟨(qcD g),true,false⟩),((32030,q.g),some tok)],q.m⟩,fun q=>us.length-q.i⟩
  ⟨0,n1+1,n1+2,ae,ae,ae,trivial⟩ ah ?_ ?_
 ·refine eX [] [(32030,n1+1)] [] ?_ ?_ ?_ ?_ ?_<;>simp only[go_sem]
  all_goals first|rfl|omega|(repeat'(first|omega|rfl|apply au))
 rintro⟨i,gg,m,hi,hgg,hmm,_⟩
 try simp only at hi hgg hmm
 rcases aA i us.length with h1|h1
 ·obtain⟨w,hwi⟩:∃w,us[i]=w:=⟨_,rfl⟩;have e3:=aB h1;rw[hwi]at e3;have e5:(us.take i).length=i:=by rw[aX];omega
  obtain⟨ut,hut⟩:∃ut,us.take i=ut:=⟨_,rfl⟩;rw[hut]at e3 e5
  repeat'(first|refine rq ?_|refine rx (dZ qQb ai) ?_|refine rq ?_|refine rx ⟨ae,ae⟩ ?_|simp only[go_sem,h1,hwi,hut,bn,bh,Tryz.f32])
  refine⟨⟨i+1,m,m+1,ae,ae,ae,trivial⟩,af,?_⟩;refine bF ?_ ?_ ?_<;>simp only[go_sem,e3,aE]
 obtain rfl:i=us.length:=ae
 repeat'(first|refine rq ?_|refine rx (dZ qQb ai) ?_|refine rq ?_|refine rx ⟨ae,ae⟩ ?_|simp only[go_sem,aC,aJ,Tryz.f32])
 refine cI hm hR9 32000 qXb (ι:=Tq c2 (m+2))
  ⟨fun q=>⟨frL [(6,.ptr (32006,1) 0),(7,.ptr (32007,2) 0),(8,.ptr (32008,n1) 0),(9,eS us),(12,.ow (32049,q.g1) 1 ((lN q.i).map enc)),(13,.ow (32055,q.g2) 1 ((lY us q.i).map enc)),(14,eI (ctr us 0 q.i:Nat)),(15,eI q.i)],
   hpL [((32006,1),some ⟨[eI 0,.fz (.s []),.full [],.full []],true,false⟩),((32007,2),some ⟨[eI (c2:Nat)],true,false⟩),((32008,n1),some ⟨(qcD g),true,false⟩),((32049,q.g1),some tok),((32055,q.g2),some tok)],q.m⟩,fun q=>c2-q.i⟩
  ⟨0,m,m+1,m+2,ae,ae,ae,ae⟩ ah ?_ ?_
 ·refine eX [] [(32049,m),(32055,m+1)] [] ?_ ?_ ?_ ?_ ?_<;>simp only[go_sem]
  all_goals first|rfl|omega|(repeat'(first|omega|rfl|apply au))
 rintro⟨i,ga,gb,m2,hi2,hga,hgb,hm2⟩
 try simp only at hi2 hga hgb hm2
 have hol:=YZ i;have hnl:=YV us i;have hcl:=ED us i;rcases aA i c2 with h2|h2
 ·have hos:=Yg i;have hns:=Yf us i;have hcs:=zb us i 0;obtain⟨ol,hole⟩:∃ol,lN i=ol:=⟨_,rfl⟩;obtain⟨nl,hnle⟩:∃nl,lY us i=nl:=⟨_,rfl⟩;obtain⟨k0,hk0⟩:∃k0,ctr us 0 i=k0:=⟨_,rfl⟩;rw[hole]at hol hos;rw[hnle]at hnl hns;rw[hk0]at hcl hns hcs;have hkb:i*(us.length+1)≤1000*1000001:=eN ae ae;have hnx:=mS us k0
  repeat'(first|refine rq ?_|refine rx (dZ qQb ai) ?_|refine rq ?_|refine rx ⟨ae,ae⟩ ?_|simp only[go_sem,h2,hole,hnle,hk0,Tryz.f32])
  refine cI hm hR9 32000 qXb (ι:=Ur us k0)
   ⟨fun q=>⟨frL [(6,.ptr (32006,1) 0),(7,.ptr (32007,2) 0),(8,.ptr (32008,n1) 0),(9,eS us),(12,.ow (32049,ga) 1 (ol.map enc)),(13,.ow (32055,gb) 1 (nl.map enc)),(14,eI q.k),(15,eI i)],
    hpL [((32006,1),some ⟨[eI 0,.fz (.s []),.full [],.full []],true,false⟩),((32007,2),some ⟨[eI (c2:Nat)],true,false⟩),((32008,n1),some ⟨(qcD g),true,false⟩),((32049,ga),some tok),((32055,gb),some tok)],m2⟩,fun q=>iy us k0-q.k⟩
   ⟨k0,aI _,rfl⟩ ah ?_ ?_
  ·refine bF ?_ ?_ ?_<;>simp only[go_sem]
  rintro⟨k,hk,hke⟩
  try simp only at hk hke
  have hkn:=mS us k;have hdl:=ta k;have hdi:=ta i;rw[hke]at hkn;by_cases hin:gA k∈us
  ·have h3:=MW hin;have h4:=(mS us (k+1)).1;rw[←h3,hke]at h4;have hin':Str.mk (118::fV k)∈us:=hin
   repeat'(first|refine rq ?_|refine rx (dZ qQb ai) ?_|refine rq ?_|refine rx ⟨ae,ae⟩ ?_|simp only[go_sem,hin',zZ,Tryz.f32])
   refine⟨⟨k+1,ae,by rw[←h3];exact hke⟩,af,?_⟩;refine bF ?_ ?_ ?_<;>simp only[go_sem]
  ·have h3:=K0 hin;rw[hke]at h3;have hin':Str.mk (118::fV k)∉us:=hin
   repeat'(first|refine rq ?_|refine rx (dZ qQb ai) ?_|refine rq ?_|refine rx ⟨ae,ae⟩ ?_|simp only[go_sem,hin',zZ,Tryz.f32])
   refine⟨⟨i+1,m2,m2+1,m2+10,ae,ae,ae,ae⟩,af,?_⟩;refine bF ?_ ?_ ?_<;>(try simp only[go_sem,hos,hns,hcs,h3,n9,gA,aE])
   all_goals first|omega|rfl
 ·obtain rfl:i=c2:=ae
  have hsp:D9 g (lN i) (lY us i):=⟨hgf,by rw[hol,hnl]⟩
  repeat'(first|apply rx hsp|refine rq ?_|refine rx (dZ qQb ai) ?_|refine rq ?_|refine rx ⟨ae,ae⟩ ?_|simp only[go_sem,aC,hr,hsp,bt,Tryz.f32])
def R11:Tbl:=R10.add 24 (sp1 (fun f=>li f []) fun f=>f.fit=true∧f.size≤1000)
attribute [go_sem] R11
theorem Gp:b9 Tryz.prog GA R11:=by
 refine iD GW Gn fun f hpre _=>?_;have hp:Aa f [] []:=⟨hpre.1,hpre.2,rfl,ak⟩;have hz:List.zipWith Abs.cX.mk [] []=[]:=rfl;obtain⟨r,hr⟩:∃r,li f []=r:=⟨_,rfl⟩;rw[hr];refine rv (N:=5) hm Gn 24000 qWi GW Tryz.func24 rfl ?_
 repeat'(first|refine rq ?_|apply rx hp|simp only[go_sem,hz,hr,bt,Tryz.f24])
end Go.Proofs.YtnijhilfchekkaaGreatDoor
