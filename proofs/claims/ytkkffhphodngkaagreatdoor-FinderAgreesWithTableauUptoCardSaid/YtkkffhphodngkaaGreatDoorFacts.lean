import Derived.Test.YtkkffhphodngkaaGreatDoorProg
import Derived.Test.YtkkffhphodngkaaGreatDoorA2
import Derived.KernelRfl
namespace Go.Proofs.YtkkffhphodngkaaGreatDoor
open Go Go.Abs Go.Proofs
theorem hm:Tryz.prog.follows .mixedOrders=true:=by kernel_rfl
@[go_sem] theorem ti1:zao Tryz.prog 1=some ⟨1,8,[.fz (.nilf)],.func,false,false,[]⟩:=by kernel_rfl
@[go_sem] theorem ti2:zao Tryz.prog 2=some ⟨1,8,[.fz (.i .i64 0)],(.int .i64),false,false,[]⟩:=by kernel_rfl
@[go_sem] theorem ti3:zao Tryz.prog 3=some ⟨1,8,[.fz (.i .i64 0)],(.int .i64),false,false,[]⟩:=by kernel_rfl
@[go_sem] theorem ti4:zao Tryz.prog 4=some ⟨1,1,[.fz (.b false)],.bool,false,false,[]⟩:=by kernel_rfl
@[go_sem] theorem ti5:zao Tryz.prog 5=some ⟨1,1,[.fz (.i .u8 0)],(.int .u8),false,false,[]⟩:=by kernel_rfl
@[go_sem] theorem ti6:zao Tryz.prog 6=some ⟨1,1,[.fz (.i .u8 0)],(.int .u8),false,false,[]⟩:=by kernel_rfl
@[go_sem] theorem ti7:zao Tryz.prog 7=some ⟨4,24,[.fz (.i .i64 0),.fz (.i .i64 0),.fz (.b false),.fz (.i .u8 0)],(.struct [(0,2),(1,3),(2,4),(3,6)]),true,true,[(.int .i64),(.int .i64),.bool,(.int .u8)]⟩:=by kernel_rfl
@[go_sem] theorem ti8:zao Tryz.prog 8=some ⟨4,24,[.fz (.i .i64 0),.fz (.i .i64 0),.fz (.b false),.fz (.i .u8 0)],(.struct [(0,2),(1,3),(2,4),(3,6)]),true,true,[(.int .i64),(.int .i64),.bool,(.int .u8)]⟩:=by kernel_rfl
@[go_sem] theorem ti9:zao Tryz.prog 9=some ⟨1,16,[.fz (.s [])],.str,false,false,[]⟩:=by kernel_rfl
@[go_sem] theorem zOa:zao Tryz.prog 10=some ⟨1,16,[.fz (.s [])],.str,false,false,[]⟩:=by kernel_rfl
@[go_sem] theorem zOb:zao Tryz.prog 11=some ⟨1,16,[.fz (.s [])],.str,false,false,[]⟩:=by kernel_rfl
@[go_sem] theorem zOc:zao Tryz.prog 12=some ⟨1,8,[.fz (.i .u64 0)],(.int .u64),false,false,[]⟩:=by kernel_rfl
@[go_sem] theorem zOd:zao Tryz.prog 13=some ⟨2,24,[.fz (.s []),.fz (.i .u64 0)],(.struct [(0,9),(1,12)]),true,false,[.str,(.int .u64)]⟩:=by kernel_rfl
@[go_sem] theorem zOe:zao Tryz.prog 14=some ⟨2,24,[.fz (.s []),.fz (.i .u64 0)],(.struct [(0,9),(1,12)]),true,false,[.str,(.int .u64)]⟩:=by kernel_rfl
@[go_sem] theorem zOf:zao Tryz.prog 18=some ⟨1,8,[.junk],(.struct [(0,17)]),true,false,[.ptr]⟩:=by kernel_rfl
@[go_sem] theorem zOg:zao Tryz.prog 19=some ⟨1,8,[.junk],(.struct [(0,17)]),true,false,[.ptr]⟩:=by kernel_rfl
@[go_sem] theorem zOh:zao Tryz.prog 21=some ⟨1,4,[.fz (.i .i32 0)],(.int .i32),false,false,[]⟩:=by kernel_rfl
@[go_sem] theorem zOi:zao Tryz.prog 22=some ⟨1,24,[.full []],(.slice 9),false,false,[]⟩:=by kernel_rfl
@[go_sem] theorem zOj:zao Tryz.prog 23=some ⟨1,24,[.full []],(.slice 25),false,false,[]⟩:=by kernel_rfl
@[go_sem] theorem zOk:zao Tryz.prog 24=some ⟨4,72,[.fz (.i .i64 0),.fz (.s []),.full [],.full []],(.struct [(0,3),(1,9),(2,22),(3,23)]),true,false,[(.int .i64),.str,(.slice 9),(.slice 25)]⟩:=by kernel_rfl
@[go_sem] theorem zOl:zao Tryz.prog 25=some ⟨4,72,[.fz (.i .i64 0),.fz (.s []),.full [],.full []],(.struct [(0,3),(1,9),(2,22),(3,23)]),true,false,[(.int .i64),.str,(.slice 9),(.slice 25)]⟩:=by kernel_rfl
@[go_sem] theorem zOm:zao Tryz.prog 26=some ⟨1,8,[.fz (.nilf)],.func,false,false,[]⟩:=by kernel_rfl
@[go_sem] theorem zOn:zao Tryz.prog 27=some ⟨1,24,[.full []],(.slice 29),false,false,[]⟩:=by kernel_rfl
@[go_sem] theorem zOo:zao Tryz.prog 28=some ⟨5,64,[.fz (.i .i64 0),.fz (.i .i64 0),.fz (.i .i64 0),.fz (.s []),.full []],(.struct [(0,3),(1,3),(2,3),(3,9),(4,27)]),true,false,[(.int .i64),(.int .i64),(.int .i64),.str,(.slice 29)]⟩:=by kernel_rfl
@[go_sem] theorem zOp:zao Tryz.prog 29=some ⟨5,64,[.fz (.i .i64 0),.fz (.i .i64 0),.fz (.i .i64 0),.fz (.s []),.full []],(.struct [(0,3),(1,3),(2,3),(3,9),(4,27)]),true,false,[(.int .i64),(.int .i64),(.int .i64),.str,(.slice 29)]⟩:=by kernel_rfl
@[go_sem] theorem zOq:zao Tryz.prog 30=some ⟨2,16,[.fz (.i .i64 0),.fz (.i .i64 0)],(.struct [(0,3),(1,3)]),true,true,[(.int .i64),(.int .i64)]⟩:=by kernel_rfl
@[go_sem] theorem zOr:zao Tryz.prog 31=some ⟨2,16,[.fz (.i .i64 0),.fz (.i .i64 0)],(.struct [(0,3),(1,3)]),true,true,[(.int .i64),(.int .i64)]⟩:=by kernel_rfl
@[go_sem] theorem zOs:zao Tryz.prog 33=some ⟨1,8,[.fz (.nilf)],.func,false,false,[]⟩:=by kernel_rfl
@[go_sem] theorem zOt:zao Tryz.prog 34=some ⟨1,8,[.fz (.nilf)],.func,false,false,[]⟩:=by kernel_rfl
@[go_sem] theorem zOu:zao Tryz.prog 35=some ⟨1,8,[.fz (.nilf)],.func,false,false,[]⟩:=by kernel_rfl
@[go_sem] theorem zOv:zao Tryz.prog 36=some ⟨1,8,[.fz (.nilf)],.func,false,false,[]⟩:=by kernel_rfl
@[go_sem] theorem zOw:zao Tryz.prog 37=some ⟨1,8,[.fz (.nilf)],.func,false,false,[]⟩:=by kernel_rfl
@[go_sem] theorem zOx:zao Tryz.prog 38=some ⟨1,8,[.fz (.nilf)],.func,false,false,[]⟩:=by kernel_rfl
@[go_sem] theorem zOy:zao Tryz.prog 39=some ⟨1,24,[.full []],(.slice 103),false,false,[]⟩:=by kernel_rfl
@[go_sem] theorem zOz:zao Tryz.prog 40=some ⟨1,24,[.full []],(.slice 99),false,false,[]⟩:=by kernel_rfl
@[go_sem] theorem zOA:zao Tryz.prog 41=some ⟨3,56,[.fz (.i .i64 0),.full [],.full []],(.struct [(0,3),(1,39),(2,40)]),true,false,[(.int .i64),(.slice 103),(.slice 99)]⟩:=by kernel_rfl
@[go_sem] theorem zOB:zao Tryz.prog 42=some ⟨3,56,[.fz (.i .i64 0),.full [],.full []],(.struct [(0,3),(1,39),(2,40)]),true,false,[(.int .i64),(.slice 103),(.slice 99)]⟩:=by kernel_rfl
@[go_sem] theorem zOC:zao Tryz.prog 44=some ⟨1,8,[.fz (.nilf)],.func,false,false,[]⟩:=by kernel_rfl
@[go_sem] theorem zOD:zao Tryz.prog 46=some ⟨1,8,[.fz (.nilf)],.func,false,false,[]⟩:=by kernel_rfl
@[go_sem] theorem zOE:zao Tryz.prog 48=some ⟨2,16,[.fz (.i .i64 0),.fz (.i .i64 0)],(.struct [(0,3),(1,3)]),true,true,[(.int .i64),(.int .i64)]⟩:=by kernel_rfl
@[go_sem] theorem zOF:zao Tryz.prog 49=some ⟨2,16,[.fz (.i .i64 0),.fz (.i .i64 0)],(.struct [(0,3),(1,3)]),true,true,[(.int .i64),(.int .i64)]⟩:=by kernel_rfl
@[go_sem] theorem zOG:zao Tryz.prog 51=some ⟨1,8,[.fz (.nilf)],.func,false,false,[]⟩:=by kernel_rfl
@[go_sem] theorem zOH:zao Tryz.prog 52=some ⟨1,24,[.full []],(.slice 4),false,false,[]⟩:=by kernel_rfl
@[go_sem] theorem zOI:zao Tryz.prog 53=some ⟨1,24,[.full []],(.slice 22),false,false,[]⟩:=by kernel_rfl
@[go_sem] theorem zOJ:zao Tryz.prog 54=some ⟨4,80,[.full [],.full [],.full [],.fz (.i .i64 0)],(.struct [(0,23),(1,52),(2,53),(3,3)]),true,false,[(.slice 25),(.slice 4),(.slice 22),(.int .i64)]⟩:=by kernel_rfl
@[go_sem] theorem zOK:zao Tryz.prog 55=some ⟨4,80,[.full [],.full [],.full [],.fz (.i .i64 0)],(.struct [(0,23),(1,52),(2,53),(3,3)]),true,false,[(.slice 25),(.slice 4),(.slice 22),(.int .i64)]⟩:=by kernel_rfl
@[go_sem] theorem zOL:zao Tryz.prog 56=some ⟨1,8,[.fz (.nilf)],.func,false,false,[]⟩:=by kernel_rfl
@[go_sem] theorem zOM:zao Tryz.prog 57=some ⟨1,8,[.fz (.nilf)],.func,false,false,[]⟩:=by kernel_rfl
@[go_sem] theorem zON:zao Tryz.prog 58=some ⟨1,8,[.fz (.nilf)],.func,false,false,[]⟩:=by kernel_rfl
@[go_sem] theorem zOO:zao Tryz.prog 59=some ⟨1,8,[.fz (.nilf)],.func,false,false,[]⟩:=by kernel_rfl
@[go_sem] theorem zOP:zao Tryz.prog 60=some ⟨1,8,[.fz (.nilf)],.func,false,false,[]⟩:=by kernel_rfl
@[go_sem] theorem zOQ:zao Tryz.prog 61=some ⟨1,8,[.fz (.nilf)],.func,false,false,[]⟩:=by kernel_rfl
@[go_sem] theorem zOR:zao Tryz.prog 63=some ⟨1,8,[.fz (.nilf)],.func,false,false,[]⟩:=by kernel_rfl
@[go_sem] theorem zOS:zao Tryz.prog 64=some ⟨1,24,[.full []],(.slice 3),false,false,[]⟩:=by kernel_rfl
@[go_sem] theorem zOT:zao Tryz.prog 65=some ⟨1,8,[.fz (.nilf)],.func,false,false,[]⟩:=by kernel_rfl
@[go_sem] theorem zOU:zao Tryz.prog 67=some ⟨1,8,[.fz (.nilf)],.func,false,false,[]⟩:=by kernel_rfl
@[go_sem] theorem zOV:zao Tryz.prog 68=some ⟨1,8,[.fz (.nilf)],.func,false,false,[]⟩:=by kernel_rfl
@[go_sem] theorem zOW:zao Tryz.prog 69=some ⟨1,8,[.fz (.nilf)],.func,false,false,[]⟩:=by kernel_rfl
@[go_sem] theorem zOX:zao Tryz.prog 70=some ⟨1,8,[.fz (.nilf)],.func,false,false,[]⟩:=by kernel_rfl
@[go_sem] theorem zOY:zao Tryz.prog 71=some ⟨1,8,[.fz (.nilf)],.func,false,false,[]⟩:=by kernel_rfl
@[go_sem] theorem zOZ:zao Tryz.prog 72=some ⟨1,8,[.fz (.nilf)],.func,false,false,[]⟩:=by kernel_rfl
@[go_sem] theorem zO0:zao Tryz.prog 73=some ⟨1,8,[.fz (.nilf)],.func,false,false,[]⟩:=by kernel_rfl
@[go_sem] theorem zO1:zao Tryz.prog 74=some ⟨1,8,[.fz (.nilf)],.func,false,false,[]⟩:=by kernel_rfl
@[go_sem] theorem zO2:zao Tryz.prog 75=some ⟨1,8,[.fz (.nilf)],.func,false,false,[]⟩:=by kernel_rfl
@[go_sem] theorem zO3:zao Tryz.prog 76=some ⟨5,80,[.fz (.i .i64 0),.fz (.s []),.full [],.full [],.fz (.i .i64 0)],(.struct [(0,25),(4,3)]),true,false,[(.struct [(0,3),(1,9),(2,22),(3,23)]),(.int .i64)]⟩:=by kernel_rfl
@[go_sem] theorem zO4:zao Tryz.prog 77=some ⟨5,80,[.fz (.i .i64 0),.fz (.s []),.full [],.full [],.fz (.i .i64 0)],(.struct [(0,25),(4,3)]),true,false,[(.struct [(0,3),(1,9),(2,22),(3,23)]),(.int .i64)]⟩:=by kernel_rfl
@[go_sem] theorem zO5:zao Tryz.prog 78=some ⟨1,24,[.full []],(.slice 77),false,false,[]⟩:=by kernel_rfl
@[go_sem] theorem zO6:zao Tryz.prog 79=some ⟨1,8,[.fz (.nilf)],.func,false,false,[]⟩:=by kernel_rfl
@[go_sem] theorem zO7:zao Tryz.prog 80=some ⟨1,8,[.fz (.nilf)],.func,false,false,[]⟩:=by kernel_rfl
@[go_sem] theorem zO8:zao Tryz.prog 81=some ⟨1,8,[.fz (.nilf)],.func,false,false,[]⟩:=by kernel_rfl
@[go_sem] theorem zO9:zao Tryz.prog 82=some ⟨1,8,[.fz (.nilf)],.func,false,false,[]⟩:=by kernel_rfl
@[go_sem] theorem zPa:zao Tryz.prog 84=some ⟨1,8,[.fz (.nilf)],.func,false,false,[]⟩:=by kernel_rfl
@[go_sem] theorem zPb:zao Tryz.prog 85=some ⟨1,8,[.fz (.nilf)],.func,false,false,[]⟩:=by kernel_rfl
@[go_sem] theorem zPc:zao Tryz.prog 86=some ⟨1,8,[.fz (.nilf)],.func,false,false,[]⟩:=by kernel_rfl
@[go_sem] theorem zPd:zao Tryz.prog 87=some ⟨1,8,[.fz (.nilf)],.func,false,false,[]⟩:=by kernel_rfl
@[go_sem] theorem zPe:zao Tryz.prog 88=some ⟨1,24,[.full []],(.slice 119),false,false,[]⟩:=by kernel_rfl
@[go_sem] theorem zPf:zao Tryz.prog 89=some ⟨1,24,[.full []],(.slice 119),false,false,[]⟩:=by kernel_rfl
@[go_sem] theorem zPg:zao Tryz.prog 90=some ⟨1,8,[.fz (.nilf)],.func,false,false,[]⟩:=by kernel_rfl
@[go_sem] theorem zPh:zao Tryz.prog 91=some ⟨1,8,[.fz (.nilf)],.func,false,false,[]⟩:=by kernel_rfl
@[go_sem] theorem zPi:zao Tryz.prog 92=some ⟨1,8,[.fz (.nilf)],.func,false,false,[]⟩:=by kernel_rfl
@[go_sem] theorem zPj:zao Tryz.prog 93=some ⟨1,8,[.fz (.nilf)],.func,false,false,[]⟩:=by kernel_rfl
@[go_sem] theorem zPk:zao Tryz.prog 94=some ⟨1,8,[.fz (.nilf)],.func,false,false,[]⟩:=by kernel_rfl
@[go_sem] theorem zPl:zao Tryz.prog 95=some ⟨1,8,[.fz (.nilf)],.func,false,false,[]⟩:=by kernel_rfl
@[go_sem] theorem zPm:zao Tryz.prog 96=some ⟨1,8,[.fz (.nilf)],.func,false,false,[]⟩:=by kernel_rfl
@[go_sem] theorem zPn:zao Tryz.prog 97=some ⟨1,24,[.full []],(.slice 64),false,false,[]⟩:=by kernel_rfl
@[go_sem] theorem zPo:zao Tryz.prog 98=some ⟨3,48,[.fz (.s []),.fz (.i .i64 0),.full []],(.struct [(0,9),(1,3),(2,97)]),true,false,[.str,(.int .i64),(.slice 64)]⟩:=by kernel_rfl
@[go_sem] theorem zPp:zao Tryz.prog 99=some ⟨3,48,[.fz (.s []),.fz (.i .i64 0),.full []],(.struct [(0,9),(1,3),(2,97)]),true,false,[.str,(.int .i64),(.slice 64)]⟩:=by kernel_rfl
@[go_sem] theorem zL9:zao Tryz.prog 100=some ⟨1,8,[.fz (.nilf)],.func,false,false,[]⟩:=by kernel_rfl
@[go_sem] theorem zMa:zao Tryz.prog 101=some ⟨1,8,[.fz (.nilf)],.func,false,false,[]⟩:=by kernel_rfl
@[go_sem] theorem zMb:zao Tryz.prog 102=some ⟨2,24,[.fz (.s []),.fz (.i .i64 0)],(.struct [(0,9),(1,3)]),true,true,[.str,(.int .i64)]⟩:=by kernel_rfl
@[go_sem] theorem zMc:zao Tryz.prog 103=some ⟨2,24,[.fz (.s []),.fz (.i .i64 0)],(.struct [(0,9),(1,3)]),true,true,[.str,(.int .i64)]⟩:=by kernel_rfl
@[go_sem] theorem zMd:zao Tryz.prog 104=some ⟨1,8,[.fz (.nilf)],.func,false,false,[]⟩:=by kernel_rfl
@[go_sem] theorem zMe:zao Tryz.prog 105=some ⟨1,8,[.fz (.nilf)],.func,false,false,[]⟩:=by kernel_rfl
@[go_sem] theorem zMf:zao Tryz.prog 106=some ⟨1,8,[.fz (.nilf)],.func,false,false,[]⟩:=by kernel_rfl
@[go_sem] theorem zMg:zao Tryz.prog 107=some ⟨1,8,[.fz (.nilf)],.func,false,false,[]⟩:=by kernel_rfl
@[go_sem] theorem zMh:zao Tryz.prog 108=some ⟨1,8,[.fz (.i .u64 0)],(.int .u64),false,false,[]⟩:=by kernel_rfl
@[go_sem] theorem zMi:zao Tryz.prog 109=some ⟨1,8,[.fz (.nilf)],.func,false,false,[]⟩:=by kernel_rfl
@[go_sem] theorem zMj:zao Tryz.prog 110=some ⟨1,8,[.fz (.nilf)],.func,false,false,[]⟩:=by kernel_rfl
@[go_sem] theorem zMk:zao Tryz.prog 111=some ⟨1,8,[.fz (.nilf)],.func,false,false,[]⟩:=by kernel_rfl
@[go_sem] theorem zMl:zao Tryz.prog 112=some ⟨1,24,[.full []],(.slice 114),false,false,[]⟩:=by kernel_rfl
@[go_sem] theorem zMm:zao Tryz.prog 113=some ⟨2,32,[.fz (.s []),.fz (.s [])],(.struct [(0,9),(1,9)]),true,true,[.str,.str]⟩:=by kernel_rfl
@[go_sem] theorem zMn:zao Tryz.prog 114=some ⟨2,32,[.fz (.s []),.fz (.s [])],(.struct [(0,9),(1,9)]),true,true,[.str,.str]⟩:=by kernel_rfl
@[go_sem] theorem zMo:zao Tryz.prog 115=some ⟨1,8,[.fz (.nilf)],.func,false,false,[]⟩:=by kernel_rfl
@[go_sem] theorem zMp:zao Tryz.prog 116=some ⟨1,8,[.fz (.nilf)],.func,false,false,[]⟩:=by kernel_rfl
@[go_sem] theorem zMq:zao Tryz.prog 117=some ⟨1,8,[.fz (.nilf)],.func,false,false,[]⟩:=by kernel_rfl
@[go_sem] theorem zMr:zao Tryz.prog 118=some ⟨2,32,[.fz (.s []),.fz (.s [])],(.struct [(0,9),(1,9)]),true,true,[.str,.str]⟩:=by kernel_rfl
@[go_sem] theorem zMs:zao Tryz.prog 119=some ⟨2,32,[.fz (.s []),.fz (.s [])],(.struct [(0,9),(1,9)]),true,true,[.str,.str]⟩:=by kernel_rfl
@[go_sem] theorem zMt:zao Tryz.prog 120=some ⟨1,8,[.fz (.nilf)],.func,false,false,[]⟩:=by kernel_rfl
@[go_sem] theorem zMu:zao Tryz.prog 121=some ⟨1,8,[.fz (.nilf)],.func,false,false,[]⟩:=by kernel_rfl
@[go_sem] theorem zMv:zao Tryz.prog 122=some ⟨1,8,[.fz (.nilf)],.func,false,false,[]⟩:=by kernel_rfl
@[go_sem] theorem zMw:zao Tryz.prog 123=some ⟨1,8,[.fz (.nilf)],.func,false,false,[]⟩:=by kernel_rfl
@[go_sem] theorem zMx:zao Tryz.prog 124=some ⟨1,8,[.fz (.nilf)],.func,false,false,[]⟩:=by kernel_rfl
@[go_sem] theorem zMy:zao Tryz.prog 125=some ⟨1,8,[.fz (.nilf)],.func,false,false,[]⟩:=by kernel_rfl
@[go_sem] theorem zMz:zao Tryz.prog 126=some ⟨1,8,[.fz (.nilf)],.func,false,false,[]⟩:=by kernel_rfl
@[go_sem] theorem zMA:zao Tryz.prog 127=some ⟨1,8,[.fz (.nilf)],.func,false,false,[]⟩:=by kernel_rfl
@[go_sem] theorem zMB:zao Tryz.prog 128=some ⟨1,24,[.full []],(.slice 129),false,false,[]⟩:=by kernel_rfl
@[go_sem] theorem zMC:zao Tryz.prog 129=some ⟨2,24,[.fz (.s []),.fz (.i .i64 0)],(.struct [(0,9),(1,3)]),true,true,[.str,(.int .i64)]⟩:=by kernel_rfl
@[go_sem] theorem zMD:zao Tryz.prog 130=some ⟨1,8,[.fz (.nilf)],.func,false,false,[]⟩:=by kernel_rfl
@[go_sem] theorem zME:zao Tryz.prog 131=some ⟨1,8,[.fz (.nilf)],.func,false,false,[]⟩:=by kernel_rfl
@[go_sem] theorem zMF:zao Tryz.prog 133=some ⟨1,8,[.fz (.nilf)],.func,false,false,[]⟩:=by kernel_rfl
@[go_sem] theorem zMG:zao Tryz.prog 134=some ⟨1,8,[.fz (.nilf)],.func,false,false,[]⟩:=by kernel_rfl
@[go_sem] theorem zMH:zao Tryz.prog 135=some ⟨1,8,[.fz (.nilf)],.func,false,false,[]⟩:=by kernel_rfl
@[go_sem] theorem zMI:zao Tryz.prog 136=some ⟨1,8,[.fz (.nilf)],.func,false,false,[]⟩:=by kernel_rfl
@[go_sem] theorem zMJ:zao Tryz.prog 137=some ⟨1,8,[.fz (.i .i64 0)],(.int .i64),false,false,[]⟩:=by kernel_rfl
@[go_sem] theorem zMK:zao Tryz.prog 139=some ⟨1,8,[.fz (.nilf)],.func,false,false,[]⟩:=by kernel_rfl
@[go_sem] theorem zML:zao Tryz.prog 140=some ⟨1,8,[.fz (.nilf)],.func,false,false,[]⟩:=by kernel_rfl
@[go_sem] theorem zMM:zao Tryz.prog 141=some ⟨1,8,[.fz (.nilf)],.func,false,false,[]⟩:=by kernel_rfl
@[go_sem] theorem zMN:zao Tryz.prog 142=some ⟨1,8,[.fz (.nilf)],.func,false,false,[]⟩:=by kernel_rfl
@[go_sem] theorem zMO:zao Tryz.prog 143=some ⟨1,8,[.fz (.nilf)],.func,false,false,[]⟩:=by kernel_rfl
@[go_sem] theorem zMP:zao Tryz.prog 144=some ⟨1,4,[.fz (.i .u32 0)],(.int .u32),false,false,[]⟩:=by kernel_rfl
@[go_sem] theorem zMQ:zao Tryz.prog 145=some ⟨1,8,[.fz (.nilf)],.func,false,false,[]⟩:=by kernel_rfl
@[go_sem] theorem zMR:zao Tryz.prog 146=some ⟨1,8,[.fz (.i .u64 0)],(.int .u64),false,false,[]⟩:=by kernel_rfl
@[go_sem] theorem zMS:zao Tryz.prog 148=some ⟨1,8,[.fz (.nilf)],.func,false,false,[]⟩:=by kernel_rfl
@[go_sem] theorem zMT:zao Tryz.prog 149=some ⟨1,24,[.full []],(.slice 5),false,false,[]⟩:=by kernel_rfl
@[go_sem] theorem zMU:zao Tryz.prog 151=some ⟨1,8,[.fz (.nilf)],.func,false,false,[]⟩:=by kernel_rfl
@[go_sem] theorem zMV:zao Tryz.prog 152=some ⟨1,8,[.fz (.nilf)],.func,false,false,[]⟩:=by kernel_rfl
@[go_sem] theorem zMW:zao Tryz.prog 153=some ⟨1,8,[.fz (.nilf)],.func,false,false,[]⟩:=by kernel_rfl
@[go_sem] theorem zMX:zao Tryz.prog 154=some ⟨1,8,[.fz (.nilf)],.func,false,false,[]⟩:=by kernel_rfl
@[go_sem] theorem zMY:zao Tryz.prog 155=some ⟨1,8,[.fz (.nilf)],.func,false,false,[]⟩:=by kernel_rfl
@[go_sem] theorem zMZ:zao Tryz.prog 156=some ⟨1,8,[.fz (.nilf)],.func,false,false,[]⟩:=by kernel_rfl
@[go_sem] theorem zM0:zao Tryz.prog 157=some ⟨1,8,[.fz (.nilf)],.func,false,false,[]⟩:=by kernel_rfl
@[go_sem] theorem zM1:zao Tryz.prog 158=some ⟨1,8,[.fz (.nilf)],.func,false,false,[]⟩:=by kernel_rfl
@[go_sem] theorem zM2:zao Tryz.prog 159=some ⟨1,8,[.fz (.nilf)],.func,false,false,[]⟩:=by kernel_rfl
@[go_sem] theorem zM3:zao Tryz.prog 160=some ⟨1,8,[.fz (.nilf)],.func,false,false,[]⟩:=by kernel_rfl
@[go_sem] theorem zM4:zao Tryz.prog 161=some ⟨1,8,[.fz (.i .u64 0)],(.int .u64),false,false,[]⟩:=by kernel_rfl
@[go_sem] theorem zM5:zao Tryz.prog 162=some ⟨1,8,[.fz (.nilf)],.func,false,false,[]⟩:=by kernel_rfl
@[go_sem] theorem zM6:zao Tryz.prog 163=some ⟨1,8,[.fz (.nilf)],.func,false,false,[]⟩:=by kernel_rfl
@[go_sem] theorem zM7:zao Tryz.prog 164=some ⟨1,8,[.fz (.nilf)],.func,false,false,[]⟩:=by kernel_rfl
@[go_sem] theorem zM8:zao Tryz.prog 166=some ⟨1,8,[.fz (.nilf)],.func,false,false,[]⟩:=by kernel_rfl
@[go_sem] theorem zM9:zao Tryz.prog 167=some ⟨1,8,[.fz (.nilf)],.func,false,false,[]⟩:=by kernel_rfl
@[go_sem] theorem zNa:zao Tryz.prog 170=some ⟨1,8,[.fz (.nilf)],.func,false,false,[]⟩:=by kernel_rfl
@[go_sem] theorem zNb:zao Tryz.prog 171=some ⟨1,8,[.fz (.nilf)],.func,false,false,[]⟩:=by kernel_rfl
@[go_sem] theorem zNc:zao Tryz.prog 172=some ⟨1,8,[.fz (.nilf)],.func,false,false,[]⟩:=by kernel_rfl
@[go_sem] theorem zNd:zao Tryz.prog 175=some ⟨1,8,[.fz (.nilf)],.func,false,false,[]⟩:=by kernel_rfl
@[go_sem] theorem zNe:zao Tryz.prog 176=some ⟨1,8,[.fz (.nilf)],.func,false,false,[]⟩:=by kernel_rfl
@[go_sem] theorem zNf:zao Tryz.prog 179=some ⟨4,40,[.junk,.junk,.junk,.fz (.s [])],(.struct [(0,17),(1,17),(2,17),(3,9)]),true,false,[.ptr,.ptr,.ptr,.str]⟩:=by kernel_rfl
@[go_sem] theorem zNg:zao Tryz.prog 180=some ⟨4,40,[.junk,.junk,.junk,.fz (.s [])],(.struct [(0,17),(1,17),(2,17),(3,9)]),true,false,[.ptr,.ptr,.ptr,.str]⟩:=by kernel_rfl
@[go_sem] theorem zNh:zao Tryz.prog 182=some ⟨0,0,[],(.struct [(0,181)]),true,false,[.other]⟩:=by kernel_rfl
@[go_sem] theorem zNi:zao Tryz.prog 183=some ⟨0,0,[],(.struct [(0,181)]),true,false,[.other]⟩:=by kernel_rfl
@[go_sem] theorem zNj:zao Tryz.prog 184=some ⟨1,8,[.fz (.nilf)],.func,false,false,[]⟩:=by kernel_rfl
@[go_sem] theorem zNk:zao Tryz.prog 185=some ⟨1,1,[.fz (.i .u8 0)],(.int .u8),false,false,[]⟩:=by kernel_rfl
@[go_sem] theorem zNl:zao Tryz.prog 186=some ⟨1,1,[.fz (.i .u8 0)],(.int .u8),false,false,[]⟩:=by kernel_rfl
@[go_sem] theorem zNm:zao Tryz.prog 187=some ⟨1,8,[.fz (.nilf)],.func,false,false,[]⟩:=by kernel_rfl
@[go_sem] theorem zNn:zao Tryz.prog 189=some ⟨1,4,[.fz (.i .i32 0)],(.int .i32),false,false,[]⟩:=by kernel_rfl
@[go_sem] theorem zNo:zao Tryz.prog 190=some ⟨1,4,[.fz (.i .i32 0)],(.int .i32),false,false,[]⟩:=by kernel_rfl
@[go_sem] theorem zNp:zao Tryz.prog 191=some ⟨11,48,[.fz (.i .u64 0),.fz (.i .u64 0),.fz (.i .u32 0),.fz (.i .u8 0),.fz (.i .u8 0),.fz (.i .u8 0),.fz (.i .u8 0),.fz (.nilf),.junk,.fz (.i .i32 0),.fz (.i .i32 0)],(.struct [(0,12),(1,12),(2,144),(3,185),(4,5),(5,5),(6,186),(7,187),(8,188),(9,189),(10,190)]),true,false,[(.int .u64),(.int .u64),(.int .u32),(.int .u8),(.int .u8),(.int .u8),(.int .u8),.func,.ptr,(.int .i32),(.int .i32)]⟩:=by kernel_rfl
@[go_sem] theorem zNq:zao Tryz.prog 192=some ⟨11,48,[.fz (.i .u64 0),.fz (.i .u64 0),.fz (.i .u32 0),.fz (.i .u8 0),.fz (.i .u8 0),.fz (.i .u8 0),.fz (.i .u8 0),.fz (.nilf),.junk,.fz (.i .i32 0),.fz (.i .i32 0)],(.struct [(0,12),(1,12),(2,144),(3,185),(4,5),(5,5),(6,186),(7,187),(8,188),(9,189),(10,190)]),true,false,[(.int .u64),(.int .u64),(.int .u32),(.int .u8),(.int .u8),(.int .u8),(.int .u8),.func,.ptr,(.int .i32),(.int .i32)]⟩:=by kernel_rfl
theorem ok3:zam Tryz.prog 3:=Tryz.call3
theorem ok4:zam Tryz.prog 4:=Tryz.call4
theorem ok5:zam Tryz.prog 5:=Tryz.call5
theorem ok6:zam Tryz.prog 6:=Tryz.call6
theorem ok7:zam Tryz.prog 7:=Tryz.call7
theorem ok8:zam Tryz.prog 8:=Tryz.call8
theorem ok9:zam Tryz.prog 9:=Tryz.call9
theorem zJE:zam Tryz.prog 10:=Tryz.call10
theorem zHA:zam Tryz.prog 11:=Tryz.call11
theorem zHB:zam Tryz.prog 12:=Tryz.call12
theorem zLA:zam Tryz.prog 13:=Tryz.call13
theorem zLB:zam Tryz.prog 14:=Tryz.call14
theorem zJF:zam Tryz.prog 15:=Tryz.call15
theorem zJG:zam Tryz.prog 16:=Tryz.call16
theorem zHC:zam Tryz.prog 17:=Tryz.call17
theorem zLC:zam Tryz.prog 18:=Tryz.call18
theorem zLD:zam Tryz.prog 19:=Tryz.call19
theorem zJH:zam Tryz.prog 20:=Tryz.call20
theorem zJI:zam Tryz.prog 21:=Tryz.call21
theorem zJJ:zam Tryz.prog 22:=Tryz.call22
theorem zJK:zam Tryz.prog 23:=Tryz.call23
theorem zHD:zam Tryz.prog 24:=Tryz.call24
theorem zqq:zam Tryz.prog 25:=Tryz.call25
theorem zJL:zam Tryz.prog 26:=Tryz.call26
theorem zLE:zam Tryz.prog 27:=Tryz.call27
theorem zJM:zam Tryz.prog 28:=Tryz.call28
theorem zJN:zam Tryz.prog 29:=Tryz.call29
theorem zJO:zam Tryz.prog 30:=Tryz.call30
theorem zHE:zam Tryz.prog 31:=Tryz.call31
theorem zLF:zam Tryz.prog 32:=Tryz.call32
theorem zHF:zam Tryz.prog 33:=Tryz.call33
theorem zJP:zam Tryz.prog 34:=Tryz.call34
theorem zJQ:zam Tryz.prog 35:=Tryz.call35
theorem zJR:zam Tryz.prog 36:=Tryz.call36
theorem zHG:zam Tryz.prog 37:=Tryz.call37
theorem zJS:zam Tryz.prog 38:=Tryz.call38
theorem zJT:zam Tryz.prog 39:=Tryz.call39
theorem zJU:zam Tryz.prog 40:=Tryz.call40
theorem zJV:zam Tryz.prog 41:=Tryz.call41
theorem zJW:zam Tryz.prog 42:=Tryz.call42
theorem zJX:zam Tryz.prog 43:=Tryz.call43
theorem zJY:zam Tryz.prog 44:=Tryz.call44
theorem zJZ:zam Tryz.prog 45:=Tryz.call45
theorem zDL:zam Tryz.prog 46:=Tryz.call46
theorem zDM:zam Tryz.prog 47:=Tryz.call47
theorem zFz:zam Tryz.prog 48:=Tryz.call48
theorem zJ0:zam Tryz.prog 49:=Tryz.call49
theorem zJ1:zam Tryz.prog 50:=Tryz.call50
theorem zJ2:zam Tryz.prog 51:=Tryz.call51
theorem zJ3:zam Tryz.prog 53:=Tryz.call53
theorem zJ4:zam Tryz.prog 54:=Tryz.call54
theorem zLG:zam Tryz.prog 55:=Tryz.call55
theorem zJ5:zam Tryz.prog 56:=Tryz.call56
theorem zHH:zam Tryz.prog 57:=Tryz.call57
theorem zLH:zam Tryz.prog 58:=Tryz.call58
theorem zFA:zam Tryz.prog 59:=Tryz.call59
theorem zJ6:zam Tryz.prog 60:=Tryz.call60
theorem zLI:zam Tryz.prog 61:=Tryz.call61
theorem zr9:zam Tryz.prog 62:=Tryz.call62
theorem zLJ:zam Tryz.prog 63:=Tryz.call63
theorem zJ7:zam Tryz.prog 64:=Tryz.call64
theorem zJ8:zam Tryz.prog 65:=Tryz.call65
theorem zJ9:zam Tryz.prog 66:=Tryz.call66
theorem zLK:zam Tryz.prog 67:=Tryz.call67
theorem zLL:zam Tryz.prog 68:=Tryz.call68
theorem zKa:zam Tryz.prog 69:=Tryz.call69
theorem zKb:zam Tryz.prog 70:=Tryz.call70
theorem zKc:zam Tryz.prog 71:=Tryz.call71
theorem zKd:zam Tryz.prog 72:=Tryz.call72
theorem zKe:zam Tryz.prog 76:=Tryz.call76
theorem zLM:zam Tryz.prog 78:=Tryz.call78
theorem zHI:zam Tryz.prog 79:=Tryz.call79
theorem zHJ:zam Tryz.prog 80:=Tryz.call80
theorem zLN:zam Tryz.prog 81:=Tryz.call81
theorem zKf:zam Tryz.prog 82:=Tryz.call82
theorem zHy:zam Tryz.prog 106:=Tryz.call106
theorem zDG:zam Tryz.prog 107:=Tryz.call107
theorem zxF:zam Tryz.prog 108:=Tryz.call108
theorem zHz:zam Tryz.prog 109:=Tryz.call109
theorem zDH:zam Tryz.prog 110:=Tryz.call110
theorem zxG:zam Tryz.prog 111:=Tryz.call111
theorem zDI:zam Tryz.prog 117:=Tryz.call117
theorem zDJ:zam Tryz.prog 125:=Tryz.call125
theorem zDK:zam Tryz.prog 126:=Tryz.call126
end Go.Proofs.YtkkffhphodngkaaGreatDoor
