import Derived.Test.YtkkffhphodngkabGreatDoorProg
import Derived.Test.YtkkffhphodngkabGreatDoorA2
import Derived.KernelRfl
namespace Go.Proofs.YtkkffhphodngkabGreatDoor
open Go Go.Abs Go.Proofs
theorem hm:Tryz.prog.follows .mixedOrders=true:=by kernel_rfl
@[go_sem] theorem ti1:zap Tryz.prog 1=some ⟨1,8,[.fz (.nilf)],.func,false,false,[]⟩:=by kernel_rfl
@[go_sem] theorem ti2:zap Tryz.prog 2=some ⟨1,8,[.fz (.i .i64 0)],(.int .i64),false,false,[]⟩:=by kernel_rfl
@[go_sem] theorem ti3:zap Tryz.prog 3=some ⟨1,8,[.fz (.i .i64 0)],(.int .i64),false,false,[]⟩:=by kernel_rfl
@[go_sem] theorem ti4:zap Tryz.prog 4=some ⟨1,1,[.fz (.b false)],.bool,false,false,[]⟩:=by kernel_rfl
@[go_sem] theorem ti5:zap Tryz.prog 5=some ⟨1,1,[.fz (.i .u8 0)],(.int .u8),false,false,[]⟩:=by kernel_rfl
@[go_sem] theorem ti6:zap Tryz.prog 6=some ⟨1,1,[.fz (.i .u8 0)],(.int .u8),false,false,[]⟩:=by kernel_rfl
@[go_sem] theorem ti7:zap Tryz.prog 7=some ⟨4,24,[.fz (.i .i64 0),.fz (.i .i64 0),.fz (.b false),.fz (.i .u8 0)],(.struct [(0,2),(1,3),(2,4),(3,6)]),true,true,[(.int .i64),(.int .i64),.bool,(.int .u8)]⟩:=by kernel_rfl
@[go_sem] theorem ti8:zap Tryz.prog 8=some ⟨4,24,[.fz (.i .i64 0),.fz (.i .i64 0),.fz (.b false),.fz (.i .u8 0)],(.struct [(0,2),(1,3),(2,4),(3,6)]),true,true,[(.int .i64),(.int .i64),.bool,(.int .u8)]⟩:=by kernel_rfl
@[go_sem] theorem ti9:zap Tryz.prog 9=some ⟨1,16,[.fz (.s [])],.str,false,false,[]⟩:=by kernel_rfl
@[go_sem] theorem zQc:zap Tryz.prog 10=some ⟨1,16,[.fz (.s [])],.str,false,false,[]⟩:=by kernel_rfl
@[go_sem] theorem zQd:zap Tryz.prog 11=some ⟨1,16,[.fz (.s [])],.str,false,false,[]⟩:=by kernel_rfl
@[go_sem] theorem zQe:zap Tryz.prog 12=some ⟨1,8,[.fz (.i .u64 0)],(.int .u64),false,false,[]⟩:=by kernel_rfl
@[go_sem] theorem zQf:zap Tryz.prog 13=some ⟨2,24,[.fz (.s []),.fz (.i .u64 0)],(.struct [(0,9),(1,12)]),true,false,[.str,(.int .u64)]⟩:=by kernel_rfl
@[go_sem] theorem zQg:zap Tryz.prog 14=some ⟨2,24,[.fz (.s []),.fz (.i .u64 0)],(.struct [(0,9),(1,12)]),true,false,[.str,(.int .u64)]⟩:=by kernel_rfl
@[go_sem] theorem zQh:zap Tryz.prog 18=some ⟨1,8,[.junk],(.struct [(0,17)]),true,false,[.ptr]⟩:=by kernel_rfl
@[go_sem] theorem zQi:zap Tryz.prog 19=some ⟨1,8,[.junk],(.struct [(0,17)]),true,false,[.ptr]⟩:=by kernel_rfl
@[go_sem] theorem zQj:zap Tryz.prog 21=some ⟨1,4,[.fz (.i .i32 0)],(.int .i32),false,false,[]⟩:=by kernel_rfl
@[go_sem] theorem zQk:zap Tryz.prog 22=some ⟨1,24,[.full []],(.slice 25),false,false,[]⟩:=by kernel_rfl
@[go_sem] theorem zQl:zap Tryz.prog 23=some ⟨1,24,[.full []],(.slice 9),false,false,[]⟩:=by kernel_rfl
@[go_sem] theorem zQm:zap Tryz.prog 24=some ⟨4,72,[.fz (.i .i64 0),.fz (.s []),.full [],.full []],(.struct [(0,3),(1,9),(2,23),(3,22)]),true,false,[(.int .i64),.str,(.slice 9),(.slice 25)]⟩:=by kernel_rfl
@[go_sem] theorem zQn:zap Tryz.prog 25=some ⟨4,72,[.fz (.i .i64 0),.fz (.s []),.full [],.full []],(.struct [(0,3),(1,9),(2,23),(3,22)]),true,false,[(.int .i64),.str,(.slice 9),(.slice 25)]⟩:=by kernel_rfl
@[go_sem] theorem zQo:zap Tryz.prog 26=some ⟨1,24,[.full []],(.slice 28),false,false,[]⟩:=by kernel_rfl
@[go_sem] theorem zQp:zap Tryz.prog 27=some ⟨5,64,[.fz (.i .i64 0),.fz (.i .i64 0),.fz (.i .i64 0),.fz (.s []),.full []],(.struct [(0,3),(1,3),(2,3),(3,9),(4,26)]),true,false,[(.int .i64),(.int .i64),(.int .i64),.str,(.slice 28)]⟩:=by kernel_rfl
@[go_sem] theorem zQq:zap Tryz.prog 28=some ⟨5,64,[.fz (.i .i64 0),.fz (.i .i64 0),.fz (.i .i64 0),.fz (.s []),.full []],(.struct [(0,3),(1,3),(2,3),(3,9),(4,26)]),true,false,[(.int .i64),(.int .i64),(.int .i64),.str,(.slice 28)]⟩:=by kernel_rfl
@[go_sem] theorem zQr:zap Tryz.prog 29=some ⟨1,24,[.full []],(.slice 66),false,false,[]⟩:=by kernel_rfl
@[go_sem] theorem zQs:zap Tryz.prog 30=some ⟨1,24,[.full []],(.slice 69),false,false,[]⟩:=by kernel_rfl
@[go_sem] theorem zQt:zap Tryz.prog 31=some ⟨3,56,[.fz (.i .i64 0),.full [],.full []],(.struct [(0,3),(1,29),(2,30)]),true,false,[(.int .i64),(.slice 66),(.slice 69)]⟩:=by kernel_rfl
@[go_sem] theorem zQu:zap Tryz.prog 32=some ⟨3,56,[.fz (.i .i64 0),.full [],.full []],(.struct [(0,3),(1,29),(2,30)]),true,false,[(.int .i64),(.slice 66),(.slice 69)]⟩:=by kernel_rfl
@[go_sem] theorem zQv:zap Tryz.prog 33=some ⟨9,128,[.fz (.i .i64 0),.fz (.i .i64 0),.fz (.i .i64 0),.fz (.i .i64 0),.fz (.s []),.full [],.fz (.i .i64 0),.full [],.full []],(.struct [(0,3),(1,28),(6,32)]),true,false,[(.int .i64),(.struct [(0,3),(1,3),(2,3),(3,9),(4,26)]),(.struct [(0,3),(1,29),(2,30)])]⟩:=by kernel_rfl
@[go_sem] theorem zQw:zap Tryz.prog 34=some ⟨9,128,[.fz (.i .i64 0),.fz (.i .i64 0),.fz (.i .i64 0),.fz (.i .i64 0),.fz (.s []),.full [],.fz (.i .i64 0),.full [],.full []],(.struct [(0,3),(1,28),(6,32)]),true,false,[(.int .i64),(.struct [(0,3),(1,3),(2,3),(3,9),(4,26)]),(.struct [(0,3),(1,29),(2,30)])]⟩:=by kernel_rfl
@[go_sem] theorem zQx:zap Tryz.prog 35=some ⟨2,16,[.fz (.i .i64 0),.fz (.i .i64 0)],(.struct [(0,3),(1,3)]),true,true,[(.int .i64),(.int .i64)]⟩:=by kernel_rfl
@[go_sem] theorem zQy:zap Tryz.prog 36=some ⟨2,16,[.fz (.i .i64 0),.fz (.i .i64 0)],(.struct [(0,3),(1,3)]),true,true,[(.int .i64),(.int .i64)]⟩:=by kernel_rfl
@[go_sem] theorem zQz:zap Tryz.prog 38=some ⟨1,8,[.fz (.nilf)],.func,false,false,[]⟩:=by kernel_rfl
@[go_sem] theorem zQA:zap Tryz.prog 39=some ⟨1,8,[.fz (.nilf)],.func,false,false,[]⟩:=by kernel_rfl
@[go_sem] theorem zQB:zap Tryz.prog 40=some ⟨1,8,[.fz (.nilf)],.func,false,false,[]⟩:=by kernel_rfl
@[go_sem] theorem zQC:zap Tryz.prog 41=some ⟨1,8,[.fz (.nilf)],.func,false,false,[]⟩:=by kernel_rfl
@[go_sem] theorem zQD:zap Tryz.prog 42=some ⟨1,8,[.fz (.nilf)],.func,false,false,[]⟩:=by kernel_rfl
@[go_sem] theorem zQE:zap Tryz.prog 43=some ⟨1,8,[.fz (.nilf)],.func,false,false,[]⟩:=by kernel_rfl
@[go_sem] theorem zQF:zap Tryz.prog 44=some ⟨1,8,[.fz (.nilf)],.func,false,false,[]⟩:=by kernel_rfl
@[go_sem] theorem zQG:zap Tryz.prog 45=some ⟨1,8,[.fz (.nilf)],.func,false,false,[]⟩:=by kernel_rfl
@[go_sem] theorem zQH:zap Tryz.prog 46=some ⟨1,8,[.fz (.nilf)],.func,false,false,[]⟩:=by kernel_rfl
@[go_sem] theorem zQI:zap Tryz.prog 47=some ⟨1,8,[.fz (.nilf)],.func,false,false,[]⟩:=by kernel_rfl
@[go_sem] theorem zQJ:zap Tryz.prog 48=some ⟨1,8,[.fz (.nilf)],.func,false,false,[]⟩:=by kernel_rfl
@[go_sem] theorem zQK:zap Tryz.prog 49=some ⟨1,8,[.fz (.nilf)],.func,false,false,[]⟩:=by kernel_rfl
@[go_sem] theorem zQL:zap Tryz.prog 50=some ⟨1,8,[.fz (.nilf)],.func,false,false,[]⟩:=by kernel_rfl
@[go_sem] theorem zQM:zap Tryz.prog 52=some ⟨1,8,[.fz (.nilf)],.func,false,false,[]⟩:=by kernel_rfl
@[go_sem] theorem zQN:zap Tryz.prog 53=some ⟨1,8,[.fz (.nilf)],.func,false,false,[]⟩:=by kernel_rfl
@[go_sem] theorem zQO:zap Tryz.prog 54=some ⟨1,8,[.fz (.nilf)],.func,false,false,[]⟩:=by kernel_rfl
@[go_sem] theorem zQP:zap Tryz.prog 56=some ⟨1,8,[.fz (.nilf)],.func,false,false,[]⟩:=by kernel_rfl
@[go_sem] theorem zQQ:zap Tryz.prog 57=some ⟨1,8,[.fz (.nilf)],.func,false,false,[]⟩:=by kernel_rfl
@[go_sem] theorem zQR:zap Tryz.prog 59=some ⟨1,8,[.fz (.nilf)],.func,false,false,[]⟩:=by kernel_rfl
@[go_sem] theorem zQS:zap Tryz.prog 60=some ⟨1,8,[.fz (.nilf)],.func,false,false,[]⟩:=by kernel_rfl
@[go_sem] theorem zQT:zap Tryz.prog 61=some ⟨1,8,[.fz (.nilf)],.func,false,false,[]⟩:=by kernel_rfl
@[go_sem] theorem zQU:zap Tryz.prog 62=some ⟨1,8,[.fz (.nilf)],.func,false,false,[]⟩:=by kernel_rfl
@[go_sem] theorem zQV:zap Tryz.prog 63=some ⟨1,8,[.fz (.nilf)],.func,false,false,[]⟩:=by kernel_rfl
@[go_sem] theorem zQW:zap Tryz.prog 64=some ⟨1,8,[.fz (.nilf)],.func,false,false,[]⟩:=by kernel_rfl
@[go_sem] theorem zQX:zap Tryz.prog 65=some ⟨2,24,[.fz (.s []),.fz (.i .i64 0)],(.struct [(0,9),(1,3)]),true,true,[.str,(.int .i64)]⟩:=by kernel_rfl
@[go_sem] theorem zQY:zap Tryz.prog 66=some ⟨2,24,[.fz (.s []),.fz (.i .i64 0)],(.struct [(0,9),(1,3)]),true,true,[.str,(.int .i64)]⟩:=by kernel_rfl
@[go_sem] theorem zQZ:zap Tryz.prog 67=some ⟨1,24,[.full []],(.slice 71),false,false,[]⟩:=by kernel_rfl
@[go_sem] theorem zQ0:zap Tryz.prog 68=some ⟨3,48,[.fz (.s []),.fz (.i .i64 0),.full []],(.struct [(0,9),(1,3),(2,67)]),true,false,[.str,(.int .i64),(.slice 71)]⟩:=by kernel_rfl
@[go_sem] theorem zQ1:zap Tryz.prog 69=some ⟨3,48,[.fz (.s []),.fz (.i .i64 0),.full []],(.struct [(0,9),(1,3),(2,67)]),true,false,[.str,(.int .i64),(.slice 71)]⟩:=by kernel_rfl
@[go_sem] theorem zQ2:zap Tryz.prog 70=some ⟨1,8,[.fz (.nilf)],.func,false,false,[]⟩:=by kernel_rfl
@[go_sem] theorem zQ3:zap Tryz.prog 71=some ⟨1,24,[.full []],(.slice 3),false,false,[]⟩:=by kernel_rfl
@[go_sem] theorem zQ4:zap Tryz.prog 73=some ⟨1,8,[.fz (.nilf)],.func,false,false,[]⟩:=by kernel_rfl
@[go_sem] theorem zQ5:zap Tryz.prog 74=some ⟨1,8,[.fz (.nilf)],.func,false,false,[]⟩:=by kernel_rfl
@[go_sem] theorem zQ6:zap Tryz.prog 75=some ⟨1,8,[.fz (.nilf)],.func,false,false,[]⟩:=by kernel_rfl
@[go_sem] theorem zQ7:zap Tryz.prog 76=some ⟨1,8,[.fz (.nilf)],.func,false,false,[]⟩:=by kernel_rfl
@[go_sem] theorem zQ8:zap Tryz.prog 77=some ⟨1,8,[.fz (.nilf)],.func,false,false,[]⟩:=by kernel_rfl
@[go_sem] theorem zQ9:zap Tryz.prog 78=some ⟨1,8,[.fz (.nilf)],.func,false,false,[]⟩:=by kernel_rfl
@[go_sem] theorem zRa:zap Tryz.prog 79=some ⟨1,8,[.fz (.nilf)],.func,false,false,[]⟩:=by kernel_rfl
@[go_sem] theorem zRb:zap Tryz.prog 80=some ⟨1,8,[.fz (.nilf)],.func,false,false,[]⟩:=by kernel_rfl
@[go_sem] theorem zRc:zap Tryz.prog 81=some ⟨1,8,[.fz (.nilf)],.func,false,false,[]⟩:=by kernel_rfl
@[go_sem] theorem zRd:zap Tryz.prog 82=some ⟨1,8,[.fz (.nilf)],.func,false,false,[]⟩:=by kernel_rfl
@[go_sem] theorem zRe:zap Tryz.prog 84=some ⟨1,8,[.fz (.nilf)],.func,false,false,[]⟩:=by kernel_rfl
@[go_sem] theorem zRf:zap Tryz.prog 85=some ⟨1,8,[.fz (.nilf)],.func,false,false,[]⟩:=by kernel_rfl
@[go_sem] theorem zRg:zap Tryz.prog 86=some ⟨1,8,[.fz (.nilf)],.func,false,false,[]⟩:=by kernel_rfl
@[go_sem] theorem zRh:zap Tryz.prog 87=some ⟨1,8,[.fz (.nilf)],.func,false,false,[]⟩:=by kernel_rfl
@[go_sem] theorem zRi:zap Tryz.prog 88=some ⟨1,8,[.fz (.nilf)],.func,false,false,[]⟩:=by kernel_rfl
@[go_sem] theorem zRj:zap Tryz.prog 90=some ⟨2,16,[.fz (.i .i64 0),.fz (.i .i64 0)],(.struct [(0,3),(1,3)]),true,true,[(.int .i64),(.int .i64)]⟩:=by kernel_rfl
@[go_sem] theorem zRk:zap Tryz.prog 91=some ⟨2,16,[.fz (.i .i64 0),.fz (.i .i64 0)],(.struct [(0,3),(1,3)]),true,true,[(.int .i64),(.int .i64)]⟩:=by kernel_rfl
@[go_sem] theorem zRl:zap Tryz.prog 93=some ⟨1,8,[.fz (.nilf)],.func,false,false,[]⟩:=by kernel_rfl
@[go_sem] theorem zRm:zap Tryz.prog 94=some ⟨1,24,[.full []],(.slice 4),false,false,[]⟩:=by kernel_rfl
@[go_sem] theorem zRn:zap Tryz.prog 95=some ⟨1,24,[.full []],(.slice 23),false,false,[]⟩:=by kernel_rfl
@[go_sem] theorem zRo:zap Tryz.prog 96=some ⟨4,80,[.full [],.full [],.full [],.fz (.i .i64 0)],(.struct [(0,22),(1,94),(2,95),(3,3)]),true,false,[(.slice 25),(.slice 4),(.slice 23),(.int .i64)]⟩:=by kernel_rfl
@[go_sem] theorem zRp:zap Tryz.prog 97=some ⟨4,80,[.full [],.full [],.full [],.fz (.i .i64 0)],(.struct [(0,22),(1,94),(2,95),(3,3)]),true,false,[(.slice 25),(.slice 4),(.slice 23),(.int .i64)]⟩:=by kernel_rfl
@[go_sem] theorem zRq:zap Tryz.prog 98=some ⟨1,8,[.fz (.nilf)],.func,false,false,[]⟩:=by kernel_rfl
@[go_sem] theorem zRr:zap Tryz.prog 99=some ⟨1,8,[.fz (.nilf)],.func,false,false,[]⟩:=by kernel_rfl
@[go_sem] theorem zNn:zap Tryz.prog 100=some ⟨1,8,[.fz (.nilf)],.func,false,false,[]⟩:=by kernel_rfl
@[go_sem] theorem zNo:zap Tryz.prog 101=some ⟨1,8,[.fz (.nilf)],.func,false,false,[]⟩:=by kernel_rfl
@[go_sem] theorem zNp:zap Tryz.prog 103=some ⟨1,24,[.full []],(.slice 32),false,false,[]⟩:=by kernel_rfl
@[go_sem] theorem zNq:zap Tryz.prog 105=some ⟨1,8,[.fz (.nilf)],.func,false,false,[]⟩:=by kernel_rfl
@[go_sem] theorem zNr:zap Tryz.prog 106=some ⟨1,8,[.fz (.nilf)],.func,false,false,[]⟩:=by kernel_rfl
@[go_sem] theorem zNs:zap Tryz.prog 108=some ⟨1,8,[.fz (.nilf)],.func,false,false,[]⟩:=by kernel_rfl
@[go_sem] theorem zNt:zap Tryz.prog 109=some ⟨1,8,[.fz (.nilf)],.func,false,false,[]⟩:=by kernel_rfl
@[go_sem] theorem zNu:zap Tryz.prog 110=some ⟨1,8,[.fz (.nilf)],.func,false,false,[]⟩:=by kernel_rfl
@[go_sem] theorem zNv:zap Tryz.prog 111=some ⟨1,8,[.fz (.nilf)],.func,false,false,[]⟩:=by kernel_rfl
@[go_sem] theorem zNw:zap Tryz.prog 112=some ⟨1,8,[.fz (.nilf)],.func,false,false,[]⟩:=by kernel_rfl
@[go_sem] theorem zNx:zap Tryz.prog 113=some ⟨1,8,[.fz (.nilf)],.func,false,false,[]⟩:=by kernel_rfl
@[go_sem] theorem zNy:zap Tryz.prog 115=some ⟨1,8,[.fz (.nilf)],.func,false,false,[]⟩:=by kernel_rfl
@[go_sem] theorem zNz:zap Tryz.prog 116=some ⟨1,8,[.fz (.nilf)],.func,false,false,[]⟩:=by kernel_rfl
@[go_sem] theorem zNA:zap Tryz.prog 117=some ⟨1,8,[.fz (.nilf)],.func,false,false,[]⟩:=by kernel_rfl
@[go_sem] theorem zNB:zap Tryz.prog 118=some ⟨1,24,[.full []],(.slice 161),false,false,[]⟩:=by kernel_rfl
@[go_sem] theorem zNC:zap Tryz.prog 119=some ⟨1,24,[.full []],(.slice 161),false,false,[]⟩:=by kernel_rfl
@[go_sem] theorem zND:zap Tryz.prog 120=some ⟨1,8,[.fz (.nilf)],.func,false,false,[]⟩:=by kernel_rfl
@[go_sem] theorem zNE:zap Tryz.prog 121=some ⟨1,8,[.fz (.nilf)],.func,false,false,[]⟩:=by kernel_rfl
@[go_sem] theorem zNF:zap Tryz.prog 122=some ⟨1,8,[.fz (.nilf)],.func,false,false,[]⟩:=by kernel_rfl
@[go_sem] theorem zNG:zap Tryz.prog 123=some ⟨1,8,[.fz (.nilf)],.func,false,false,[]⟩:=by kernel_rfl
@[go_sem] theorem zNH:zap Tryz.prog 124=some ⟨1,8,[.fz (.nilf)],.func,false,false,[]⟩:=by kernel_rfl
@[go_sem] theorem zNI:zap Tryz.prog 125=some ⟨1,8,[.fz (.nilf)],.func,false,false,[]⟩:=by kernel_rfl
@[go_sem] theorem zNJ:zap Tryz.prog 126=some ⟨1,8,[.fz (.nilf)],.func,false,false,[]⟩:=by kernel_rfl
@[go_sem] theorem zNK:zap Tryz.prog 128=some ⟨1,8,[.fz (.nilf)],.func,false,false,[]⟩:=by kernel_rfl
@[go_sem] theorem zNL:zap Tryz.prog 129=some ⟨1,8,[.fz (.nilf)],.func,false,false,[]⟩:=by kernel_rfl
@[go_sem] theorem zNM:zap Tryz.prog 131=some ⟨1,8,[.fz (.nilf)],.func,false,false,[]⟩:=by kernel_rfl
@[go_sem] theorem zNN:zap Tryz.prog 132=some ⟨1,24,[.full []],(.slice 133),false,false,[]⟩:=by kernel_rfl
@[go_sem] theorem zNO:zap Tryz.prog 133=some ⟨2,24,[.fz (.s []),.fz (.i .i64 0)],(.struct [(0,9),(1,3)]),true,true,[.str,(.int .i64)]⟩:=by kernel_rfl
@[go_sem] theorem zNP:zap Tryz.prog 134=some ⟨1,8,[.fz (.nilf)],.func,false,false,[]⟩:=by kernel_rfl
@[go_sem] theorem zNQ:zap Tryz.prog 135=some ⟨1,8,[.fz (.nilf)],.func,false,false,[]⟩:=by kernel_rfl
@[go_sem] theorem zNR:zap Tryz.prog 137=some ⟨1,8,[.fz (.nilf)],.func,false,false,[]⟩:=by kernel_rfl
@[go_sem] theorem zNS:zap Tryz.prog 138=some ⟨1,8,[.fz (.nilf)],.func,false,false,[]⟩:=by kernel_rfl
@[go_sem] theorem zNT:zap Tryz.prog 139=some ⟨1,8,[.fz (.nilf)],.func,false,false,[]⟩:=by kernel_rfl
@[go_sem] theorem zNU:zap Tryz.prog 140=some ⟨1,8,[.fz (.nilf)],.func,false,false,[]⟩:=by kernel_rfl
@[go_sem] theorem zNV:zap Tryz.prog 141=some ⟨1,8,[.fz (.nilf)],.func,false,false,[]⟩:=by kernel_rfl
@[go_sem] theorem zNW:zap Tryz.prog 142=some ⟨1,8,[.fz (.nilf)],.func,false,false,[]⟩:=by kernel_rfl
@[go_sem] theorem zNX:zap Tryz.prog 143=some ⟨1,8,[.fz (.nilf)],.func,false,false,[]⟩:=by kernel_rfl
@[go_sem] theorem zNY:zap Tryz.prog 144=some ⟨5,80,[.fz (.i .i64 0),.fz (.s []),.full [],.full [],.fz (.i .i64 0)],(.struct [(0,25),(4,3)]),true,false,[(.struct [(0,3),(1,9),(2,23),(3,22)]),(.int .i64)]⟩:=by kernel_rfl
@[go_sem] theorem zNZ:zap Tryz.prog 145=some ⟨5,80,[.fz (.i .i64 0),.fz (.s []),.full [],.full [],.fz (.i .i64 0)],(.struct [(0,25),(4,3)]),true,false,[(.struct [(0,3),(1,9),(2,23),(3,22)]),(.int .i64)]⟩:=by kernel_rfl
@[go_sem] theorem zN0:zap Tryz.prog 146=some ⟨1,24,[.full []],(.slice 145),false,false,[]⟩:=by kernel_rfl
@[go_sem] theorem zN1:zap Tryz.prog 147=some ⟨1,8,[.fz (.nilf)],.func,false,false,[]⟩:=by kernel_rfl
@[go_sem] theorem zN2:zap Tryz.prog 148=some ⟨1,24,[.full []],(.slice 150),false,false,[]⟩:=by kernel_rfl
@[go_sem] theorem zN3:zap Tryz.prog 149=some ⟨2,24,[.fz (.i .i64 0),.fz (.s [])],(.struct [(0,3),(1,9)]),true,true,[(.int .i64),.str]⟩:=by kernel_rfl
@[go_sem] theorem zN4:zap Tryz.prog 150=some ⟨2,24,[.fz (.i .i64 0),.fz (.s [])],(.struct [(0,3),(1,9)]),true,true,[(.int .i64),.str]⟩:=by kernel_rfl
@[go_sem] theorem zN5:zap Tryz.prog 151=some ⟨1,24,[.full []],(.slice 154),false,false,[]⟩:=by kernel_rfl
@[go_sem] theorem zN6:zap Tryz.prog 152=some ⟨1,8,[.fz (.nilf)],.func,false,false,[]⟩:=by kernel_rfl
@[go_sem] theorem zN7:zap Tryz.prog 153=some ⟨2,24,[.fz (.s []),.fz (.i .i64 0)],(.struct [(0,9),(1,3)]),true,true,[.str,(.int .i64)]⟩:=by kernel_rfl
@[go_sem] theorem zN8:zap Tryz.prog 154=some ⟨2,24,[.fz (.s []),.fz (.i .i64 0)],(.struct [(0,9),(1,3)]),true,true,[.str,(.int .i64)]⟩:=by kernel_rfl
@[go_sem] theorem zN9:zap Tryz.prog 155=some ⟨1,8,[.fz (.nilf)],.func,false,false,[]⟩:=by kernel_rfl
@[go_sem] theorem zOa:zap Tryz.prog 156=some ⟨1,8,[.fz (.nilf)],.func,false,false,[]⟩:=by kernel_rfl
@[go_sem] theorem zOb:zap Tryz.prog 157=some ⟨1,24,[.full []],(.slice 5),false,false,[]⟩:=by kernel_rfl
@[go_sem] theorem zOc:zap Tryz.prog 158=some ⟨1,8,[.fz (.nilf)],.func,false,false,[]⟩:=by kernel_rfl
@[go_sem] theorem zOd:zap Tryz.prog 159=some ⟨1,8,[.fz (.nilf)],.func,false,false,[]⟩:=by kernel_rfl
@[go_sem] theorem zOe:zap Tryz.prog 160=some ⟨2,32,[.fz (.s []),.fz (.s [])],(.struct [(0,9),(1,9)]),true,true,[.str,.str]⟩:=by kernel_rfl
@[go_sem] theorem zOf:zap Tryz.prog 161=some ⟨2,32,[.fz (.s []),.fz (.s [])],(.struct [(0,9),(1,9)]),true,true,[.str,.str]⟩:=by kernel_rfl
@[go_sem] theorem zOg:zap Tryz.prog 162=some ⟨1,8,[.fz (.nilf)],.func,false,false,[]⟩:=by kernel_rfl
@[go_sem] theorem zOh:zap Tryz.prog 163=some ⟨1,8,[.fz (.nilf)],.func,false,false,[]⟩:=by kernel_rfl
@[go_sem] theorem zOi:zap Tryz.prog 164=some ⟨1,8,[.fz (.nilf)],.func,false,false,[]⟩:=by kernel_rfl
@[go_sem] theorem zOj:zap Tryz.prog 165=some ⟨1,8,[.fz (.nilf)],.func,false,false,[]⟩:=by kernel_rfl
@[go_sem] theorem zOk:zap Tryz.prog 166=some ⟨2,32,[.fz (.s []),.fz (.s [])],(.struct [(0,9),(1,9)]),true,true,[.str,.str]⟩:=by kernel_rfl
@[go_sem] theorem zOl:zap Tryz.prog 167=some ⟨2,32,[.fz (.s []),.fz (.s [])],(.struct [(0,9),(1,9)]),true,true,[.str,.str]⟩:=by kernel_rfl
@[go_sem] theorem zOm:zap Tryz.prog 168=some ⟨1,24,[.full []],(.slice 167),false,false,[]⟩:=by kernel_rfl
@[go_sem] theorem zOn:zap Tryz.prog 169=some ⟨1,8,[.fz (.nilf)],.func,false,false,[]⟩:=by kernel_rfl
@[go_sem] theorem zOo:zap Tryz.prog 170=some ⟨1,8,[.fz (.nilf)],.func,false,false,[]⟩:=by kernel_rfl
@[go_sem] theorem zOp:zap Tryz.prog 171=some ⟨1,8,[.fz (.nilf)],.func,false,false,[]⟩:=by kernel_rfl
@[go_sem] theorem zOq:zap Tryz.prog 172=some ⟨1,8,[.fz (.nilf)],.func,false,false,[]⟩:=by kernel_rfl
@[go_sem] theorem zOr:zap Tryz.prog 173=some ⟨1,8,[.fz (.nilf)],.func,false,false,[]⟩:=by kernel_rfl
@[go_sem] theorem zOs:zap Tryz.prog 174=some ⟨1,8,[.fz (.nilf)],.func,false,false,[]⟩:=by kernel_rfl
@[go_sem] theorem zOt:zap Tryz.prog 175=some ⟨1,8,[.fz (.nilf)],.func,false,false,[]⟩:=by kernel_rfl
@[go_sem] theorem zOu:zap Tryz.prog 176=some ⟨1,8,[.fz (.nilf)],.func,false,false,[]⟩:=by kernel_rfl
@[go_sem] theorem zOv:zap Tryz.prog 177=some ⟨1,8,[.fz (.nilf)],.func,false,false,[]⟩:=by kernel_rfl
@[go_sem] theorem zOw:zap Tryz.prog 178=some ⟨1,8,[.fz (.i .u64 0)],(.int .u64),false,false,[]⟩:=by kernel_rfl
@[go_sem] theorem zOx:zap Tryz.prog 179=some ⟨1,8,[.fz (.nilf)],.func,false,false,[]⟩:=by kernel_rfl
@[go_sem] theorem zOy:zap Tryz.prog 180=some ⟨1,8,[.fz (.nilf)],.func,false,false,[]⟩:=by kernel_rfl
@[go_sem] theorem zOz:zap Tryz.prog 181=some ⟨1,8,[.fz (.nilf)],.func,false,false,[]⟩:=by kernel_rfl
@[go_sem] theorem zOA:zap Tryz.prog 182=some ⟨1,8,[.fz (.nilf)],.func,false,false,[]⟩:=by kernel_rfl
@[go_sem] theorem zOB:zap Tryz.prog 183=some ⟨1,8,[.fz (.nilf)],.func,false,false,[]⟩:=by kernel_rfl
@[go_sem] theorem zOC:zap Tryz.prog 184=some ⟨1,8,[.fz (.nilf)],.func,false,false,[]⟩:=by kernel_rfl
@[go_sem] theorem zOD:zap Tryz.prog 185=some ⟨1,8,[.fz (.nilf)],.func,false,false,[]⟩:=by kernel_rfl
@[go_sem] theorem zOE:zap Tryz.prog 186=some ⟨1,8,[.fz (.nilf)],.func,false,false,[]⟩:=by kernel_rfl
@[go_sem] theorem zOF:zap Tryz.prog 187=some ⟨1,8,[.fz (.nilf)],.func,false,false,[]⟩:=by kernel_rfl
@[go_sem] theorem zOG:zap Tryz.prog 188=some ⟨1,8,[.fz (.nilf)],.func,false,false,[]⟩:=by kernel_rfl
@[go_sem] theorem zOH:zap Tryz.prog 189=some ⟨1,8,[.fz (.nilf)],.func,false,false,[]⟩:=by kernel_rfl
@[go_sem] theorem zOI:zap Tryz.prog 190=some ⟨1,8,[.fz (.nilf)],.func,false,false,[]⟩:=by kernel_rfl
@[go_sem] theorem zOJ:zap Tryz.prog 191=some ⟨1,8,[.fz (.nilf)],.func,false,false,[]⟩:=by kernel_rfl
@[go_sem] theorem zOK:zap Tryz.prog 192=some ⟨1,8,[.fz (.nilf)],.func,false,false,[]⟩:=by kernel_rfl
@[go_sem] theorem zOL:zap Tryz.prog 193=some ⟨1,8,[.fz (.nilf)],.func,false,false,[]⟩:=by kernel_rfl
@[go_sem] theorem zOM:zap Tryz.prog 194=some ⟨1,8,[.fz (.nilf)],.func,false,false,[]⟩:=by kernel_rfl
@[go_sem] theorem zON:zap Tryz.prog 195=some ⟨1,8,[.fz (.i .i64 0)],(.int .i64),false,false,[]⟩:=by kernel_rfl
@[go_sem] theorem zOO:zap Tryz.prog 197=some ⟨1,8,[.fz (.nilf)],.func,false,false,[]⟩:=by kernel_rfl
@[go_sem] theorem zOP:zap Tryz.prog 198=some ⟨1,8,[.fz (.nilf)],.func,false,false,[]⟩:=by kernel_rfl
@[go_sem] theorem zOQ:zap Tryz.prog 199=some ⟨1,8,[.fz (.nilf)],.func,false,false,[]⟩:=by kernel_rfl
@[go_sem] theorem zOR:zap Tryz.prog 200=some ⟨1,8,[.fz (.nilf)],.func,false,false,[]⟩:=by kernel_rfl
@[go_sem] theorem zOS:zap Tryz.prog 201=some ⟨1,8,[.fz (.nilf)],.func,false,false,[]⟩:=by kernel_rfl
@[go_sem] theorem zOT:zap Tryz.prog 202=some ⟨1,4,[.fz (.i .u32 0)],(.int .u32),false,false,[]⟩:=by kernel_rfl
@[go_sem] theorem zOU:zap Tryz.prog 203=some ⟨1,8,[.fz (.nilf)],.func,false,false,[]⟩:=by kernel_rfl
@[go_sem] theorem zOV:zap Tryz.prog 204=some ⟨1,8,[.fz (.i .u64 0)],(.int .u64),false,false,[]⟩:=by kernel_rfl
@[go_sem] theorem zOW:zap Tryz.prog 206=some ⟨1,8,[.fz (.nilf)],.func,false,false,[]⟩:=by kernel_rfl
@[go_sem] theorem zOX:zap Tryz.prog 208=some ⟨1,8,[.fz (.nilf)],.func,false,false,[]⟩:=by kernel_rfl
@[go_sem] theorem zOY:zap Tryz.prog 209=some ⟨1,8,[.fz (.nilf)],.func,false,false,[]⟩:=by kernel_rfl
@[go_sem] theorem zOZ:zap Tryz.prog 210=some ⟨1,8,[.fz (.nilf)],.func,false,false,[]⟩:=by kernel_rfl
@[go_sem] theorem zO0:zap Tryz.prog 211=some ⟨1,8,[.fz (.nilf)],.func,false,false,[]⟩:=by kernel_rfl
@[go_sem] theorem zO1:zap Tryz.prog 212=some ⟨1,8,[.fz (.nilf)],.func,false,false,[]⟩:=by kernel_rfl
@[go_sem] theorem zO2:zap Tryz.prog 213=some ⟨1,8,[.fz (.nilf)],.func,false,false,[]⟩:=by kernel_rfl
@[go_sem] theorem zO3:zap Tryz.prog 214=some ⟨1,8,[.fz (.i .u64 0)],(.int .u64),false,false,[]⟩:=by kernel_rfl
@[go_sem] theorem zO4:zap Tryz.prog 215=some ⟨1,8,[.fz (.nilf)],.func,false,false,[]⟩:=by kernel_rfl
@[go_sem] theorem zO5:zap Tryz.prog 216=some ⟨1,8,[.fz (.nilf)],.func,false,false,[]⟩:=by kernel_rfl
@[go_sem] theorem zO6:zap Tryz.prog 217=some ⟨1,8,[.fz (.nilf)],.func,false,false,[]⟩:=by kernel_rfl
@[go_sem] theorem zO7:zap Tryz.prog 218=some ⟨1,8,[.fz (.nilf)],.func,false,false,[]⟩:=by kernel_rfl
@[go_sem] theorem zO8:zap Tryz.prog 219=some ⟨1,8,[.fz (.nilf)],.func,false,false,[]⟩:=by kernel_rfl
@[go_sem] theorem zO9:zap Tryz.prog 222=some ⟨1,8,[.fz (.nilf)],.func,false,false,[]⟩:=by kernel_rfl
@[go_sem] theorem zPa:zap Tryz.prog 223=some ⟨1,8,[.fz (.nilf)],.func,false,false,[]⟩:=by kernel_rfl
@[go_sem] theorem zPb:zap Tryz.prog 226=some ⟨1,8,[.fz (.nilf)],.func,false,false,[]⟩:=by kernel_rfl
@[go_sem] theorem zPc:zap Tryz.prog 227=some ⟨1,8,[.fz (.nilf)],.func,false,false,[]⟩:=by kernel_rfl
@[go_sem] theorem zPd:zap Tryz.prog 230=some ⟨4,40,[.junk,.junk,.junk,.fz (.s [])],(.struct [(0,17),(1,17),(2,17),(3,9)]),true,false,[.ptr,.ptr,.ptr,.str]⟩:=by kernel_rfl
@[go_sem] theorem zPe:zap Tryz.prog 231=some ⟨4,40,[.junk,.junk,.junk,.fz (.s [])],(.struct [(0,17),(1,17),(2,17),(3,9)]),true,false,[.ptr,.ptr,.ptr,.str]⟩:=by kernel_rfl
@[go_sem] theorem zPf:zap Tryz.prog 233=some ⟨0,0,[],(.struct [(0,232)]),true,false,[.other]⟩:=by kernel_rfl
@[go_sem] theorem zPg:zap Tryz.prog 234=some ⟨0,0,[],(.struct [(0,232)]),true,false,[.other]⟩:=by kernel_rfl
@[go_sem] theorem zPh:zap Tryz.prog 235=some ⟨1,8,[.fz (.nilf)],.func,false,false,[]⟩:=by kernel_rfl
@[go_sem] theorem zPi:zap Tryz.prog 236=some ⟨1,1,[.fz (.i .u8 0)],(.int .u8),false,false,[]⟩:=by kernel_rfl
@[go_sem] theorem zPj:zap Tryz.prog 237=some ⟨1,1,[.fz (.i .u8 0)],(.int .u8),false,false,[]⟩:=by kernel_rfl
@[go_sem] theorem zPk:zap Tryz.prog 238=some ⟨1,8,[.fz (.nilf)],.func,false,false,[]⟩:=by kernel_rfl
@[go_sem] theorem zPl:zap Tryz.prog 240=some ⟨1,4,[.fz (.i .i32 0)],(.int .i32),false,false,[]⟩:=by kernel_rfl
@[go_sem] theorem zPm:zap Tryz.prog 241=some ⟨1,4,[.fz (.i .i32 0)],(.int .i32),false,false,[]⟩:=by kernel_rfl
@[go_sem] theorem zPn:zap Tryz.prog 242=some ⟨11,48,[.fz (.i .u64 0),.fz (.i .u64 0),.fz (.i .u32 0),.fz (.i .u8 0),.fz (.i .u8 0),.fz (.i .u8 0),.fz (.i .u8 0),.fz (.nilf),.junk,.fz (.i .i32 0),.fz (.i .i32 0)],(.struct [(0,12),(1,12),(2,202),(3,236),(4,5),(5,5),(6,237),(7,238),(8,239),(9,240),(10,241)]),true,false,[(.int .u64),(.int .u64),(.int .u32),(.int .u8),(.int .u8),(.int .u8),(.int .u8),.func,.ptr,(.int .i32),(.int .i32)]⟩:=by kernel_rfl
@[go_sem] theorem zPo:zap Tryz.prog 243=some ⟨11,48,[.fz (.i .u64 0),.fz (.i .u64 0),.fz (.i .u32 0),.fz (.i .u8 0),.fz (.i .u8 0),.fz (.i .u8 0),.fz (.i .u8 0),.fz (.nilf),.junk,.fz (.i .i32 0),.fz (.i .i32 0)],(.struct [(0,12),(1,12),(2,202),(3,236),(4,5),(5,5),(6,237),(7,238),(8,239),(9,240),(10,241)]),true,false,[(.int .u64),(.int .u64),(.int .u32),(.int .u8),(.int .u8),(.int .u8),(.int .u8),.func,.ptr,(.int .i32),(.int .i32)]⟩:=by kernel_rfl
theorem ok2:zan Tryz.prog 2:=Tryz.call2
theorem ok4:zan Tryz.prog 4:=Tryz.call4
theorem ok5:zan Tryz.prog 5:=Tryz.call5
theorem ok6:zan Tryz.prog 6:=Tryz.call6
theorem ok7:zan Tryz.prog 7:=Tryz.call7
theorem ok8:zan Tryz.prog 8:=Tryz.call8
theorem ok9:zan Tryz.prog 9:=Tryz.call9
theorem zGX:zan Tryz.prog 10:=Tryz.call10
theorem zPK:zan Tryz.prog 13:=Tryz.call13
theorem zLa:zan Tryz.prog 16:=Tryz.call16
theorem zGY:zan Tryz.prog 17:=Tryz.call17
theorem zGZ:zan Tryz.prog 18:=Tryz.call18
theorem zJc:zan Tryz.prog 19:=Tryz.call19
theorem zE5:zan Tryz.prog 20:=Tryz.call20
theorem zLb:zan Tryz.prog 21:=Tryz.call21
theorem zMU:zan Tryz.prog 22:=Tryz.call22
theorem zJd:zan Tryz.prog 23:=Tryz.call23
theorem zLc:zan Tryz.prog 24:=Tryz.call24
theorem zG0:zan Tryz.prog 25:=Tryz.call25
theorem zPL:zan Tryz.prog 30:=Tryz.call30
theorem zJe:zan Tryz.prog 43:=Tryz.call43
theorem zLd:zan Tryz.prog 44:=Tryz.call44
theorem zge:zan Tryz.prog 45:=Tryz.call45
theorem zCV:zan Tryz.prog 46:=Tryz.call46
theorem zLe:zan Tryz.prog 47:=Tryz.call47
theorem zJf:zan Tryz.prog 48:=Tryz.call48
theorem zsX:zan Tryz.prog 49:=Tryz.call49
theorem zMV:zan Tryz.prog 50:=Tryz.call50
theorem zMW:zan Tryz.prog 51:=Tryz.call51
theorem zJg:zan Tryz.prog 52:=Tryz.call52
theorem zMX:zan Tryz.prog 53:=Tryz.call53
theorem zMY:zan Tryz.prog 54:=Tryz.call54
theorem zPM:zan Tryz.prog 59:=Tryz.call59
theorem zLf:zan Tryz.prog 67:=Tryz.call67
theorem zLg:zan Tryz.prog 68:=Tryz.call68
theorem zG1:zan Tryz.prog 69:=Tryz.call69
theorem zoM:zan Tryz.prog 70:=Tryz.call70
theorem zLh:zan Tryz.prog 71:=Tryz.call71
theorem zE6:zan Tryz.prog 72:=Tryz.call72
theorem zLi:zan Tryz.prog 73:=Tryz.call73
theorem zLj:zan Tryz.prog 74:=Tryz.call74
theorem zE7:zan Tryz.prog 75:=Tryz.call75
theorem zLk:zan Tryz.prog 76:=Tryz.call76
theorem zJh:zan Tryz.prog 77:=Tryz.call77
theorem zLl:zan Tryz.prog 78:=Tryz.call78
theorem zLm:zan Tryz.prog 79:=Tryz.call79
theorem zLn:zan Tryz.prog 80:=Tryz.call80
theorem zLo:zan Tryz.prog 81:=Tryz.call81
theorem zLp:zan Tryz.prog 82:=Tryz.call82
theorem zLq:zan Tryz.prog 83:=Tryz.call83
theorem zLr:zan Tryz.prog 84:=Tryz.call84
theorem zLs:zan Tryz.prog 85:=Tryz.call85
theorem zLt:zan Tryz.prog 86:=Tryz.call86
theorem zG2:zan Tryz.prog 87:=Tryz.call87
theorem zJi:zan Tryz.prog 88:=Tryz.call88
theorem zJj:zan Tryz.prog 89:=Tryz.call89
theorem zJk:zan Tryz.prog 90:=Tryz.call90
theorem zMZ:zan Tryz.prog 91:=Tryz.call91
theorem zM0:zan Tryz.prog 92:=Tryz.call92
theorem zLu:zan Tryz.prog 93:=Tryz.call93
theorem zJl:zan Tryz.prog 94:=Tryz.call94
theorem zLv:zan Tryz.prog 95:=Tryz.call95
theorem zM1:zan Tryz.prog 96:=Tryz.call96
theorem zLw:zan Tryz.prog 97:=Tryz.call97
theorem zLx:zan Tryz.prog 98:=Tryz.call98
theorem zJm:zan Tryz.prog 99:=Tryz.call99
theorem zEH:zan Tryz.prog 100:=Tryz.call100
theorem zEI:zan Tryz.prog 101:=Tryz.call101
theorem zEJ:zan Tryz.prog 102:=Tryz.call102
theorem zEK:zan Tryz.prog 103:=Tryz.call103
theorem zEL:zan Tryz.prog 109:=Tryz.call109
theorem zEM:zan Tryz.prog 110:=Tryz.call110
theorem zEN:zan Tryz.prog 111:=Tryz.call111
theorem zEO:zan Tryz.prog 112:=Tryz.call112
theorem zEP:zan Tryz.prog 113:=Tryz.call113
theorem zEQ:zan Tryz.prog 114:=Tryz.call114
theorem zER:zan Tryz.prog 115:=Tryz.call115
theorem zES:zan Tryz.prog 116:=Tryz.call116
theorem zyI:zan Tryz.prog 117:=Tryz.call117
theorem zyJ:zan Tryz.prog 118:=Tryz.call118
theorem zI4:zan Tryz.prog 119:=Tryz.call119
theorem zET:zan Tryz.prog 120:=Tryz.call120
theorem zEU:zan Tryz.prog 121:=Tryz.call121
theorem zEV:zan Tryz.prog 122:=Tryz.call122
theorem zEW:zan Tryz.prog 123:=Tryz.call123
theorem zEX:zan Tryz.prog 124:=Tryz.call124
theorem zEY:zan Tryz.prog 125:=Tryz.call125
theorem zI5:zan Tryz.prog 126:=Tryz.call126
theorem zEZ:zan Tryz.prog 127:=Tryz.call127
theorem zI6:zan Tryz.prog 128:=Tryz.call128
theorem zI7:zan Tryz.prog 130:=Tryz.call130
theorem zE0:zan Tryz.prog 131:=Tryz.call131
theorem zBD:zan Tryz.prog 132:=Tryz.call132
theorem zI8:zan Tryz.prog 133:=Tryz.call133
theorem zyK:zan Tryz.prog 134:=Tryz.call134
theorem zE1:zan Tryz.prog 135:=Tryz.call135
theorem zI9:zan Tryz.prog 136:=Tryz.call136
theorem zJa:zan Tryz.prog 139:=Tryz.call139
theorem zJb:zan Tryz.prog 140:=Tryz.call140
theorem zE2:zan Tryz.prog 141:=Tryz.call141
theorem zE3:zan Tryz.prog 142:=Tryz.call142
theorem zE4:zan Tryz.prog 146:=Tryz.call146
end Go.Proofs.YtkkffhphodngkabGreatDoor
