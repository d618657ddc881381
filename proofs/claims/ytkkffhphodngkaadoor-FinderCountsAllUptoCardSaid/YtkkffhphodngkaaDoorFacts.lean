import Derived.Test.YtkkffhphodngkaaDoorProg
import Derived.Test.YtkkffhphodngkaaDoorA2
import Derived.KernelRfl
namespace Go.Proofs.YtkkffhphodngkaaDoor
open Go Go.Abs Go.Proofs
theorem hm:Tryd.prog.follows .mixedOrders=true:=by kernel_rfl
@[go_sem] theorem ti1:zam Tryd.prog 1=some ⟨1,8,[.fz (.nilf)],.func,false,false,[]⟩:=by kernel_rfl
@[go_sem] theorem ti2:zam Tryd.prog 2=some ⟨1,8,[.fz (.i .i64 0)],(.int .i64),false,false,[]⟩:=by kernel_rfl
@[go_sem] theorem ti3:zam Tryd.prog 3=some ⟨1,8,[.fz (.i .i64 0)],(.int .i64),false,false,[]⟩:=by kernel_rfl
@[go_sem] theorem ti4:zam Tryd.prog 4=some ⟨1,1,[.fz (.b false)],.bool,false,false,[]⟩:=by kernel_rfl
@[go_sem] theorem ti5:zam Tryd.prog 5=some ⟨1,1,[.fz (.i .u8 0)],(.int .u8),false,false,[]⟩:=by kernel_rfl
@[go_sem] theorem ti6:zam Tryd.prog 6=some ⟨1,1,[.fz (.i .u8 0)],(.int .u8),false,false,[]⟩:=by kernel_rfl
@[go_sem] theorem ti7:zam Tryd.prog 7=some ⟨4,24,[.fz (.i .i64 0),.fz (.i .i64 0),.fz (.b false),.fz (.i .u8 0)],(.struct [(0,2),(1,3),(2,4),(3,6)]),true,true,[(.int .i64),(.int .i64),.bool,(.int .u8)]⟩:=by kernel_rfl
@[go_sem] theorem ti8:zam Tryd.prog 8=some ⟨4,24,[.fz (.i .i64 0),.fz (.i .i64 0),.fz (.b false),.fz (.i .u8 0)],(.struct [(0,2),(1,3),(2,4),(3,6)]),true,true,[(.int .i64),(.int .i64),.bool,(.int .u8)]⟩:=by kernel_rfl
@[go_sem] theorem ti9:zam Tryd.prog 9=some ⟨1,16,[.fz (.s [])],.str,false,false,[]⟩:=by kernel_rfl
@[go_sem] theorem zIB:zam Tryd.prog 10=some ⟨1,16,[.fz (.s [])],.str,false,false,[]⟩:=by kernel_rfl
@[go_sem] theorem zIC:zam Tryd.prog 11=some ⟨1,16,[.fz (.s [])],.str,false,false,[]⟩:=by kernel_rfl
@[go_sem] theorem zID:zam Tryd.prog 12=some ⟨1,8,[.fz (.i .u64 0)],(.int .u64),false,false,[]⟩:=by kernel_rfl
@[go_sem] theorem zIE:zam Tryd.prog 13=some ⟨2,24,[.fz (.s []),.fz (.i .u64 0)],(.struct [(0,9),(1,12)]),true,false,[.str,(.int .u64)]⟩:=by kernel_rfl
@[go_sem] theorem zIF:zam Tryd.prog 14=some ⟨2,24,[.fz (.s []),.fz (.i .u64 0)],(.struct [(0,9),(1,12)]),true,false,[.str,(.int .u64)]⟩:=by kernel_rfl
@[go_sem] theorem zIG:zam Tryd.prog 18=some ⟨1,8,[.junk],(.struct [(0,17)]),true,false,[.ptr]⟩:=by kernel_rfl
@[go_sem] theorem zIH:zam Tryd.prog 19=some ⟨1,8,[.junk],(.struct [(0,17)]),true,false,[.ptr]⟩:=by kernel_rfl
@[go_sem] theorem zII:zam Tryd.prog 21=some ⟨1,4,[.fz (.i .i32 0)],(.int .i32),false,false,[]⟩:=by kernel_rfl
@[go_sem] theorem zIJ:zam Tryd.prog 22=some ⟨1,24,[.full []],(.slice 29),false,false,[]⟩:=by kernel_rfl
@[go_sem] theorem zIK:zam Tryd.prog 23=some ⟨2,16,[.fz (.i .i64 0),.fz (.i .i64 0)],(.struct [(0,3),(1,3)]),true,true,[(.int .i64),(.int .i64)]⟩:=by kernel_rfl
@[go_sem] theorem zIL:zam Tryd.prog 24=some ⟨2,16,[.fz (.i .i64 0),.fz (.i .i64 0)],(.struct [(0,3),(1,3)]),true,true,[(.int .i64),(.int .i64)]⟩:=by kernel_rfl
@[go_sem] theorem zIM:zam Tryd.prog 26=some ⟨1,8,[.fz (.nilf)],.func,false,false,[]⟩:=by kernel_rfl
@[go_sem] theorem zIN:zam Tryd.prog 27=some ⟨1,24,[.full []],(.slice 9),false,false,[]⟩:=by kernel_rfl
@[go_sem] theorem zIO:zam Tryd.prog 28=some ⟨4,72,[.fz (.i .i64 0),.fz (.s []),.full [],.full []],(.struct [(0,3),(1,9),(2,27),(3,22)]),true,false,[(.int .i64),.str,(.slice 9),(.slice 29)]⟩:=by kernel_rfl
@[go_sem] theorem zIP:zam Tryd.prog 29=some ⟨4,72,[.fz (.i .i64 0),.fz (.s []),.full [],.full []],(.struct [(0,3),(1,9),(2,27),(3,22)]),true,false,[(.int .i64),.str,(.slice 9),(.slice 29)]⟩:=by kernel_rfl
@[go_sem] theorem zIQ:zam Tryd.prog 30=some ⟨1,8,[.fz (.nilf)],.func,false,false,[]⟩:=by kernel_rfl
@[go_sem] theorem zIR:zam Tryd.prog 31=some ⟨1,8,[.fz (.nilf)],.func,false,false,[]⟩:=by kernel_rfl
@[go_sem] theorem zIS:zam Tryd.prog 32=some ⟨1,24,[.full []],(.slice 42),false,false,[]⟩:=by kernel_rfl
@[go_sem] theorem zIT:zam Tryd.prog 34=some ⟨1,8,[.fz (.nilf)],.func,false,false,[]⟩:=by kernel_rfl
@[go_sem] theorem zIU:zam Tryd.prog 35=some ⟨1,8,[.fz (.nilf)],.func,false,false,[]⟩:=by kernel_rfl
@[go_sem] theorem zIV:zam Tryd.prog 36=some ⟨1,8,[.fz (.nilf)],.func,false,false,[]⟩:=by kernel_rfl
@[go_sem] theorem zIW:zam Tryd.prog 37=some ⟨1,8,[.fz (.nilf)],.func,false,false,[]⟩:=by kernel_rfl
@[go_sem] theorem zIX:zam Tryd.prog 38=some ⟨1,8,[.fz (.nilf)],.func,false,false,[]⟩:=by kernel_rfl
@[go_sem] theorem zIY:zam Tryd.prog 39=some ⟨1,24,[.full []],(.slice 59),false,false,[]⟩:=by kernel_rfl
@[go_sem] theorem zIZ:zam Tryd.prog 40=some ⟨1,24,[.full []],(.slice 62),false,false,[]⟩:=by kernel_rfl
@[go_sem] theorem zI0:zam Tryd.prog 41=some ⟨3,56,[.fz (.i .i64 0),.full [],.full []],(.struct [(0,3),(1,39),(2,40)]),true,false,[(.int .i64),(.slice 59),(.slice 62)]⟩:=by kernel_rfl
@[go_sem] theorem zI1:zam Tryd.prog 42=some ⟨3,56,[.fz (.i .i64 0),.full [],.full []],(.struct [(0,3),(1,39),(2,40)]),true,false,[(.int .i64),(.slice 59),(.slice 62)]⟩:=by kernel_rfl
@[go_sem] theorem zI2:zam Tryd.prog 44=some ⟨1,8,[.fz (.nilf)],.func,false,false,[]⟩:=by kernel_rfl
@[go_sem] theorem zI3:zam Tryd.prog 45=some ⟨1,8,[.fz (.nilf)],.func,false,false,[]⟩:=by kernel_rfl
@[go_sem] theorem zI4:zam Tryd.prog 47=some ⟨1,8,[.fz (.nilf)],.func,false,false,[]⟩:=by kernel_rfl
@[go_sem] theorem zI5:zam Tryd.prog 48=some ⟨1,8,[.fz (.nilf)],.func,false,false,[]⟩:=by kernel_rfl
@[go_sem] theorem zI6:zam Tryd.prog 49=some ⟨1,8,[.fz (.nilf)],.func,false,false,[]⟩:=by kernel_rfl
@[go_sem] theorem zI7:zam Tryd.prog 50=some ⟨1,8,[.fz (.nilf)],.func,false,false,[]⟩:=by kernel_rfl
@[go_sem] theorem zI8:zam Tryd.prog 51=some ⟨1,8,[.fz (.nilf)],.func,false,false,[]⟩:=by kernel_rfl
@[go_sem] theorem zI9:zam Tryd.prog 52=some ⟨1,24,[.full []],(.slice 57),false,false,[]⟩:=by kernel_rfl
@[go_sem] theorem zJa:zam Tryd.prog 53=some ⟨1,8,[.fz (.nilf)],.func,false,false,[]⟩:=by kernel_rfl
@[go_sem] theorem zJb:zam Tryd.prog 54=some ⟨1,8,[.fz (.nilf)],.func,false,false,[]⟩:=by kernel_rfl
@[go_sem] theorem zJc:zam Tryd.prog 55=some ⟨1,24,[.full []],(.slice 3),false,false,[]⟩:=by kernel_rfl
@[go_sem] theorem zJd:zam Tryd.prog 56=some ⟨2,24,[.fz (.s []),.fz (.i .i64 0)],(.struct [(0,9),(1,3)]),true,true,[.str,(.int .i64)]⟩:=by kernel_rfl
@[go_sem] theorem zJe:zam Tryd.prog 57=some ⟨2,24,[.fz (.s []),.fz (.i .i64 0)],(.struct [(0,9),(1,3)]),true,true,[.str,(.int .i64)]⟩:=by kernel_rfl
@[go_sem] theorem zJf:zam Tryd.prog 58=some ⟨2,24,[.fz (.s []),.fz (.i .i64 0)],(.struct [(0,9),(1,3)]),true,true,[.str,(.int .i64)]⟩:=by kernel_rfl
@[go_sem] theorem zJg:zam Tryd.prog 59=some ⟨2,24,[.fz (.s []),.fz (.i .i64 0)],(.struct [(0,9),(1,3)]),true,true,[.str,(.int .i64)]⟩:=by kernel_rfl
@[go_sem] theorem zJh:zam Tryd.prog 60=some ⟨1,24,[.full []],(.slice 55),false,false,[]⟩:=by kernel_rfl
@[go_sem] theorem zJi:zam Tryd.prog 61=some ⟨3,48,[.fz (.s []),.fz (.i .i64 0),.full []],(.struct [(0,9),(1,3),(2,60)]),true,false,[.str,(.int .i64),(.slice 55)]⟩:=by kernel_rfl
@[go_sem] theorem zJj:zam Tryd.prog 62=some ⟨3,48,[.fz (.s []),.fz (.i .i64 0),.full []],(.struct [(0,9),(1,3),(2,60)]),true,false,[.str,(.int .i64),(.slice 55)]⟩:=by kernel_rfl
@[go_sem] theorem zJk:zam Tryd.prog 63=some ⟨1,8,[.fz (.nilf)],.func,false,false,[]⟩:=by kernel_rfl
@[go_sem] theorem zJl:zam Tryd.prog 64=some ⟨1,8,[.fz (.nilf)],.func,false,false,[]⟩:=by kernel_rfl
@[go_sem] theorem zJm:zam Tryd.prog 65=some ⟨1,8,[.fz (.nilf)],.func,false,false,[]⟩:=by kernel_rfl
@[go_sem] theorem zJn:zam Tryd.prog 66=some ⟨1,8,[.fz (.nilf)],.func,false,false,[]⟩:=by kernel_rfl
@[go_sem] theorem zJo:zam Tryd.prog 67=some ⟨1,8,[.fz (.nilf)],.func,false,false,[]⟩:=by kernel_rfl
@[go_sem] theorem zJp:zam Tryd.prog 68=some ⟨1,8,[.fz (.nilf)],.func,false,false,[]⟩:=by kernel_rfl
@[go_sem] theorem zJq:zam Tryd.prog 70=some ⟨1,8,[.fz (.nilf)],.func,false,false,[]⟩:=by kernel_rfl
@[go_sem] theorem zJr:zam Tryd.prog 71=some ⟨1,8,[.fz (.nilf)],.func,false,false,[]⟩:=by kernel_rfl
@[go_sem] theorem zJs:zam Tryd.prog 72=some ⟨1,8,[.fz (.nilf)],.func,false,false,[]⟩:=by kernel_rfl
@[go_sem] theorem zJt:zam Tryd.prog 73=some ⟨1,8,[.fz (.nilf)],.func,false,false,[]⟩:=by kernel_rfl
@[go_sem] theorem zJu:zam Tryd.prog 74=some ⟨1,8,[.fz (.nilf)],.func,false,false,[]⟩:=by kernel_rfl
@[go_sem] theorem zJv:zam Tryd.prog 75=some ⟨1,8,[.fz (.nilf)],.func,false,false,[]⟩:=by kernel_rfl
@[go_sem] theorem zJw:zam Tryd.prog 76=some ⟨1,8,[.fz (.nilf)],.func,false,false,[]⟩:=by kernel_rfl
@[go_sem] theorem zJx:zam Tryd.prog 77=some ⟨1,24,[.full []],(.slice 4),false,false,[]⟩:=by kernel_rfl
@[go_sem] theorem zJy:zam Tryd.prog 78=some ⟨1,8,[.fz (.nilf)],.func,false,false,[]⟩:=by kernel_rfl
@[go_sem] theorem zJz:zam Tryd.prog 79=some ⟨1,8,[.fz (.nilf)],.func,false,false,[]⟩:=by kernel_rfl
@[go_sem] theorem zJA:zam Tryd.prog 80=some ⟨1,8,[.fz (.nilf)],.func,false,false,[]⟩:=by kernel_rfl
@[go_sem] theorem zJB:zam Tryd.prog 81=some ⟨1,8,[.fz (.nilf)],.func,false,false,[]⟩:=by kernel_rfl
@[go_sem] theorem zJC:zam Tryd.prog 82=some ⟨1,8,[.fz (.nilf)],.func,false,false,[]⟩:=by kernel_rfl
@[go_sem] theorem zJD:zam Tryd.prog 83=some ⟨1,8,[.fz (.nilf)],.func,false,false,[]⟩:=by kernel_rfl
@[go_sem] theorem zJE:zam Tryd.prog 84=some ⟨1,8,[.fz (.nilf)],.func,false,false,[]⟩:=by kernel_rfl
@[go_sem] theorem zJF:zam Tryd.prog 85=some ⟨1,8,[.fz (.nilf)],.func,false,false,[]⟩:=by kernel_rfl
@[go_sem] theorem zJG:zam Tryd.prog 87=some ⟨1,8,[.fz (.nilf)],.func,false,false,[]⟩:=by kernel_rfl
@[go_sem] theorem zJH:zam Tryd.prog 88=some ⟨1,24,[.full []],(.slice 89),false,false,[]⟩:=by kernel_rfl
@[go_sem] theorem zJI:zam Tryd.prog 89=some ⟨2,24,[.fz (.s []),.fz (.i .i64 0)],(.struct [(0,9),(1,3)]),true,true,[.str,(.int .i64)]⟩:=by kernel_rfl
@[go_sem] theorem zJJ:zam Tryd.prog 90=some ⟨1,8,[.fz (.nilf)],.func,false,false,[]⟩:=by kernel_rfl
@[go_sem] theorem zJK:zam Tryd.prog 91=some ⟨1,8,[.fz (.nilf)],.func,false,false,[]⟩:=by kernel_rfl
@[go_sem] theorem zJL:zam Tryd.prog 92=some ⟨1,8,[.fz (.nilf)],.func,false,false,[]⟩:=by kernel_rfl
@[go_sem] theorem zJM:zam Tryd.prog 93=some ⟨1,8,[.fz (.nilf)],.func,false,false,[]⟩:=by kernel_rfl
@[go_sem] theorem zJN:zam Tryd.prog 94=some ⟨1,8,[.fz (.nilf)],.func,false,false,[]⟩:=by kernel_rfl
@[go_sem] theorem zJO:zam Tryd.prog 95=some ⟨1,8,[.fz (.nilf)],.func,false,false,[]⟩:=by kernel_rfl
@[go_sem] theorem zJP:zam Tryd.prog 96=some ⟨1,8,[.fz (.nilf)],.func,false,false,[]⟩:=by kernel_rfl
@[go_sem] theorem zJQ:zam Tryd.prog 97=some ⟨1,8,[.fz (.nilf)],.func,false,false,[]⟩:=by kernel_rfl
@[go_sem] theorem zJR:zam Tryd.prog 98=some ⟨1,8,[.fz (.nilf)],.func,false,false,[]⟩:=by kernel_rfl
@[go_sem] theorem zJS:zam Tryd.prog 99=some ⟨1,8,[.fz (.nilf)],.func,false,false,[]⟩:=by kernel_rfl
@[go_sem] theorem zGV:zam Tryd.prog 100=some ⟨1,8,[.fz (.i .u64 0)],(.int .u64),false,false,[]⟩:=by kernel_rfl
@[go_sem] theorem zGW:zam Tryd.prog 101=some ⟨5,80,[.fz (.i .i64 0),.fz (.s []),.full [],.full [],.fz (.i .i64 0)],(.struct [(0,29),(4,3)]),true,false,[(.struct [(0,3),(1,9),(2,27),(3,22)]),(.int .i64)]⟩:=by kernel_rfl
@[go_sem] theorem zGX:zam Tryd.prog 102=some ⟨5,80,[.fz (.i .i64 0),.fz (.s []),.full [],.full [],.fz (.i .i64 0)],(.struct [(0,29),(4,3)]),true,false,[(.struct [(0,3),(1,9),(2,27),(3,22)]),(.int .i64)]⟩:=by kernel_rfl
@[go_sem] theorem zGY:zam Tryd.prog 103=some ⟨1,24,[.full []],(.slice 102),false,false,[]⟩:=by kernel_rfl
@[go_sem] theorem zGZ:zam Tryd.prog 104=some ⟨1,8,[.fz (.nilf)],.func,false,false,[]⟩:=by kernel_rfl
@[go_sem] theorem zG0:zam Tryd.prog 105=some ⟨1,8,[.fz (.nilf)],.func,false,false,[]⟩:=by kernel_rfl
@[go_sem] theorem zG1:zam Tryd.prog 106=some ⟨1,8,[.fz (.nilf)],.func,false,false,[]⟩:=by kernel_rfl
@[go_sem] theorem zG2:zam Tryd.prog 107=some ⟨1,8,[.fz (.nilf)],.func,false,false,[]⟩:=by kernel_rfl
@[go_sem] theorem zG3:zam Tryd.prog 108=some ⟨1,8,[.fz (.nilf)],.func,false,false,[]⟩:=by kernel_rfl
@[go_sem] theorem zG4:zam Tryd.prog 109=some ⟨1,8,[.fz (.nilf)],.func,false,false,[]⟩:=by kernel_rfl
@[go_sem] theorem zG5:zam Tryd.prog 110=some ⟨1,8,[.fz (.nilf)],.func,false,false,[]⟩:=by kernel_rfl
@[go_sem] theorem zG6:zam Tryd.prog 111=some ⟨1,8,[.fz (.nilf)],.func,false,false,[]⟩:=by kernel_rfl
@[go_sem] theorem zG7:zam Tryd.prog 112=some ⟨1,8,[.fz (.nilf)],.func,false,false,[]⟩:=by kernel_rfl
@[go_sem] theorem zG8:zam Tryd.prog 113=some ⟨1,8,[.fz (.nilf)],.func,false,false,[]⟩:=by kernel_rfl
@[go_sem] theorem zG9:zam Tryd.prog 114=some ⟨1,8,[.fz (.nilf)],.func,false,false,[]⟩:=by kernel_rfl
@[go_sem] theorem zHa:zam Tryd.prog 115=some ⟨1,8,[.fz (.nilf)],.func,false,false,[]⟩:=by kernel_rfl
@[go_sem] theorem zHb:zam Tryd.prog 116=some ⟨1,8,[.fz (.nilf)],.func,false,false,[]⟩:=by kernel_rfl
@[go_sem] theorem zHc:zam Tryd.prog 117=some ⟨1,8,[.fz (.nilf)],.func,false,false,[]⟩:=by kernel_rfl
@[go_sem] theorem zHd:zam Tryd.prog 118=some ⟨1,8,[.fz (.nilf)],.func,false,false,[]⟩:=by kernel_rfl
@[go_sem] theorem zHe:zam Tryd.prog 119=some ⟨1,8,[.fz (.nilf)],.func,false,false,[]⟩:=by kernel_rfl
@[go_sem] theorem zHf:zam Tryd.prog 120=some ⟨1,8,[.fz (.nilf)],.func,false,false,[]⟩:=by kernel_rfl
@[go_sem] theorem zHg:zam Tryd.prog 121=some ⟨1,8,[.fz (.nilf)],.func,false,false,[]⟩:=by kernel_rfl
@[go_sem] theorem zHh:zam Tryd.prog 122=some ⟨1,8,[.fz (.i .i64 0)],(.int .i64),false,false,[]⟩:=by kernel_rfl
@[go_sem] theorem zHi:zam Tryd.prog 124=some ⟨1,8,[.fz (.nilf)],.func,false,false,[]⟩:=by kernel_rfl
@[go_sem] theorem zHj:zam Tryd.prog 125=some ⟨1,8,[.fz (.nilf)],.func,false,false,[]⟩:=by kernel_rfl
@[go_sem] theorem zHk:zam Tryd.prog 126=some ⟨1,8,[.fz (.nilf)],.func,false,false,[]⟩:=by kernel_rfl
@[go_sem] theorem zHl:zam Tryd.prog 127=some ⟨1,8,[.fz (.nilf)],.func,false,false,[]⟩:=by kernel_rfl
@[go_sem] theorem zHm:zam Tryd.prog 128=some ⟨1,8,[.fz (.nilf)],.func,false,false,[]⟩:=by kernel_rfl
@[go_sem] theorem zHn:zam Tryd.prog 129=some ⟨1,8,[.fz (.nilf)],.func,false,false,[]⟩:=by kernel_rfl
@[go_sem] theorem zHo:zam Tryd.prog 130=some ⟨1,4,[.fz (.i .u32 0)],(.int .u32),false,false,[]⟩:=by kernel_rfl
@[go_sem] theorem zHp:zam Tryd.prog 131=some ⟨1,8,[.fz (.nilf)],.func,false,false,[]⟩:=by kernel_rfl
@[go_sem] theorem zHq:zam Tryd.prog 132=some ⟨1,8,[.fz (.i .u64 0)],(.int .u64),false,false,[]⟩:=by kernel_rfl
@[go_sem] theorem zHr:zam Tryd.prog 133=some ⟨1,8,[.fz (.nilf)],.func,false,false,[]⟩:=by kernel_rfl
@[go_sem] theorem zHs:zam Tryd.prog 134=some ⟨1,8,[.fz (.nilf)],.func,false,false,[]⟩:=by kernel_rfl
@[go_sem] theorem zHt:zam Tryd.prog 135=some ⟨1,8,[.fz (.nilf)],.func,false,false,[]⟩:=by kernel_rfl
@[go_sem] theorem zHu:zam Tryd.prog 136=some ⟨1,8,[.fz (.nilf)],.func,false,false,[]⟩:=by kernel_rfl
@[go_sem] theorem zHv:zam Tryd.prog 137=some ⟨1,8,[.fz (.nilf)],.func,false,false,[]⟩:=by kernel_rfl
@[go_sem] theorem zHw:zam Tryd.prog 138=some ⟨1,8,[.fz (.i .u64 0)],(.int .u64),false,false,[]⟩:=by kernel_rfl
@[go_sem] theorem zHx:zam Tryd.prog 139=some ⟨1,8,[.fz (.nilf)],.func,false,false,[]⟩:=by kernel_rfl
@[go_sem] theorem zHy:zam Tryd.prog 140=some ⟨1,8,[.fz (.nilf)],.func,false,false,[]⟩:=by kernel_rfl
@[go_sem] theorem zHz:zam Tryd.prog 141=some ⟨1,8,[.fz (.nilf)],.func,false,false,[]⟩:=by kernel_rfl
@[go_sem] theorem zHA:zam Tryd.prog 143=some ⟨1,8,[.fz (.nilf)],.func,false,false,[]⟩:=by kernel_rfl
@[go_sem] theorem zHB:zam Tryd.prog 144=some ⟨1,8,[.fz (.nilf)],.func,false,false,[]⟩:=by kernel_rfl
@[go_sem] theorem zHC:zam Tryd.prog 145=some ⟨1,8,[.fz (.nilf)],.func,false,false,[]⟩:=by kernel_rfl
@[go_sem] theorem zHD:zam Tryd.prog 148=some ⟨1,8,[.fz (.nilf)],.func,false,false,[]⟩:=by kernel_rfl
@[go_sem] theorem zHE:zam Tryd.prog 149=some ⟨1,8,[.fz (.nilf)],.func,false,false,[]⟩:=by kernel_rfl
@[go_sem] theorem zHF:zam Tryd.prog 150=some ⟨1,8,[.fz (.nilf)],.func,false,false,[]⟩:=by kernel_rfl
@[go_sem] theorem zHG:zam Tryd.prog 151=some ⟨4,40,[.junk,.junk,.junk,.fz (.s [])],(.struct [(0,17),(1,17),(2,17),(3,9)]),true,false,[.ptr,.ptr,.ptr,.str]⟩:=by kernel_rfl
@[go_sem] theorem zHH:zam Tryd.prog 152=some ⟨4,40,[.junk,.junk,.junk,.fz (.s [])],(.struct [(0,17),(1,17),(2,17),(3,9)]),true,false,[.ptr,.ptr,.ptr,.str]⟩:=by kernel_rfl
@[go_sem] theorem zHI:zam Tryd.prog 154=some ⟨0,0,[],(.struct [(0,153)]),true,false,[.other]⟩:=by kernel_rfl
@[go_sem] theorem zHJ:zam Tryd.prog 155=some ⟨0,0,[],(.struct [(0,153)]),true,false,[.other]⟩:=by kernel_rfl
@[go_sem] theorem zHK:zam Tryd.prog 156=some ⟨1,8,[.fz (.nilf)],.func,false,false,[]⟩:=by kernel_rfl
@[go_sem] theorem zHL:zam Tryd.prog 157=some ⟨1,1,[.fz (.i .u8 0)],(.int .u8),false,false,[]⟩:=by kernel_rfl
@[go_sem] theorem zHM:zam Tryd.prog 158=some ⟨1,1,[.fz (.i .u8 0)],(.int .u8),false,false,[]⟩:=by kernel_rfl
@[go_sem] theorem zHN:zam Tryd.prog 159=some ⟨1,8,[.fz (.nilf)],.func,false,false,[]⟩:=by kernel_rfl
@[go_sem] theorem zHO:zam Tryd.prog 161=some ⟨1,4,[.fz (.i .i32 0)],(.int .i32),false,false,[]⟩:=by kernel_rfl
@[go_sem] theorem zHP:zam Tryd.prog 162=some ⟨1,4,[.fz (.i .i32 0)],(.int .i32),false,false,[]⟩:=by kernel_rfl
@[go_sem] theorem zHQ:zam Tryd.prog 163=some ⟨11,48,[.fz (.i .u64 0),.fz (.i .u64 0),.fz (.i .u32 0),.fz (.i .u8 0),.fz (.i .u8 0),.fz (.i .u8 0),.fz (.i .u8 0),.fz (.nilf),.junk,.fz (.i .i32 0),.fz (.i .i32 0)],(.struct [(0,12),(1,12),(2,130),(3,157),(4,5),(5,5),(6,158),(7,159),(8,160),(9,161),(10,162)]),true,false,[(.int .u64),(.int .u64),(.int .u32),(.int .u8),(.int .u8),(.int .u8),(.int .u8),.func,.ptr,(.int .i32),(.int .i32)]⟩:=by kernel_rfl
@[go_sem] theorem zHR:zam Tryd.prog 164=some ⟨11,48,[.fz (.i .u64 0),.fz (.i .u64 0),.fz (.i .u32 0),.fz (.i .u8 0),.fz (.i .u8 0),.fz (.i .u8 0),.fz (.i .u8 0),.fz (.nilf),.junk,.fz (.i .i32 0),.fz (.i .i32 0)],(.struct [(0,12),(1,12),(2,130),(3,157),(4,5),(5,5),(6,158),(7,159),(8,160),(9,161),(10,162)]),true,false,[(.int .u64),(.int .u64),(.int .u32),(.int .u8),(.int .u8),(.int .u8),(.int .u8),.func,.ptr,(.int .i32),(.int .i32)]⟩:=by kernel_rfl
theorem ok6:zao Tryd.prog 6:=Tryd.call6
theorem ok7:zao Tryd.prog 7:=Tryd.call7
theorem ok8:zao Tryd.prog 8:=Tryd.call8
theorem ok9:zao Tryd.prog 9:=Tryd.call9
theorem zAM:zao Tryd.prog 11:=Tryd.call11
theorem zEs:zao Tryd.prog 12:=Tryd.call12
theorem zCK:zao Tryd.prog 13:=Tryd.call13
theorem zza:zao Tryd.prog 16:=Tryd.call16
theorem zCL:zao Tryd.prog 17:=Tryd.call17
theorem zCM:zao Tryd.prog 18:=Tryd.call18
theorem zEt:zao Tryd.prog 19:=Tryd.call19
theorem zGg:zao Tryd.prog 20:=Tryd.call20
theorem zEu:zao Tryd.prog 21:=Tryd.call21
theorem zEv:zao Tryd.prog 22:=Tryd.call22
theorem zEw:zao Tryd.prog 25:=Tryd.call25
theorem zGh:zao Tryd.prog 26:=Tryd.call26
theorem zxm:zao Tryd.prog 28:=Tryd.call28
theorem zEx:zao Tryd.prog 29:=Tryd.call29
theorem zCN:zao Tryd.prog 30:=Tryd.call30
theorem zpp:zao Tryd.prog 31:=Tryd.call31
theorem zEy:zao Tryd.prog 32:=Tryd.call32
theorem zEz:zao Tryd.prog 33:=Tryd.call33
theorem zEA:zao Tryd.prog 34:=Tryd.call34
theorem zEB:zao Tryd.prog 35:=Tryd.call35
theorem zEC:zao Tryd.prog 36:=Tryd.call36
theorem zED:zao Tryd.prog 37:=Tryd.call37
theorem zEE:zao Tryd.prog 39:=Tryd.call39
theorem zCO:zao Tryd.prog 40:=Tryd.call40
theorem zsm:zao Tryd.prog 41:=Tryd.call41
theorem zEF:zao Tryd.prog 43:=Tryd.call43
theorem zEG:zao Tryd.prog 44:=Tryd.call44
theorem zEH:zao Tryd.prog 45:=Tryd.call45
theorem zEI:zao Tryd.prog 46:=Tryd.call46
theorem zEJ:zao Tryd.prog 47:=Tryd.call47
theorem zEK:zao Tryd.prog 48:=Tryd.call48
theorem zCP:zao Tryd.prog 49:=Tryd.call49
theorem zCQ:zao Tryd.prog 50:=Tryd.call50
theorem zCR:zao Tryd.prog 51:=Tryd.call51
theorem zCS:zao Tryd.prog 52:=Tryd.call52
theorem zGi:zao Tryd.prog 53:=Tryd.call53
theorem zGj:zao Tryd.prog 54:=Tryd.call54
theorem zEL:zao Tryd.prog 55:=Tryd.call55
theorem zGk:zao Tryd.prog 56:=Tryd.call56
theorem zEM:zao Tryd.prog 57:=Tryd.call57
theorem zCT:zao Tryd.prog 58:=Tryd.call58
theorem zEN:zao Tryd.prog 59:=Tryd.call59
theorem zEO:zao Tryd.prog 60:=Tryd.call60
theorem zGl:zao Tryd.prog 61:=Tryd.call61
theorem zAN:zao Tryd.prog 62:=Tryd.call62
theorem zEP:zao Tryd.prog 63:=Tryd.call63
theorem zGm:zao Tryd.prog 64:=Tryd.call64
theorem zEQ:zao Tryd.prog 65:=Tryd.call65
theorem zER:zao Tryd.prog 66:=Tryd.call66
theorem zES:zao Tryd.prog 67:=Tryd.call67
theorem zET:zao Tryd.prog 68:=Tryd.call68
theorem zEU:zao Tryd.prog 69:=Tryd.call69
theorem zEV:zao Tryd.prog 70:=Tryd.call70
theorem zAO:zao Tryd.prog 71:=Tryd.call71
theorem zAP:zao Tryd.prog 72:=Tryd.call72
theorem zGn:zao Tryd.prog 73:=Tryd.call73
theorem zEW:zao Tryd.prog 74:=Tryd.call74
theorem zEX:zao Tryd.prog 75:=Tryd.call75
theorem zEY:zao Tryd.prog 76:=Tryd.call76
theorem zEZ:zao Tryd.prog 77:=Tryd.call77
theorem zGo:zao Tryd.prog 78:=Tryd.call78
theorem zE0:zao Tryd.prog 79:=Tryd.call79
theorem zGp:zao Tryd.prog 80:=Tryd.call80
theorem zE1:zao Tryd.prog 81:=Tryd.call81
theorem zE2:zao Tryd.prog 85:=Tryd.call85
theorem zE3:zao Tryd.prog 86:=Tryd.call86
theorem zE4:zao Tryd.prog 87:=Tryd.call87
end Go.Proofs.YtkkffhphodngkaaDoor
