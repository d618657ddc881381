import Derived.Test.YtdlioodgfopmfaaGreatDoorProg
import Derived.Test.YtdlioodgfopmfaaGreatDoorA2
import Derived.KernelRfl
namespace Go.Proofs.YtdlioodgfopmfaaGreatDoor
open Go Go.Abs Go.Proofs
theorem hm:Tryz.prog.follows .mixedOrders=true:=by kernel_rfl
@[go_sem] theorem ti1:zar Tryz.prog 1=some ⟨1,8,[.fz (.nilf)],.func,false,false,[]⟩:=by kernel_rfl
@[go_sem] theorem ti2:zar Tryz.prog 2=some ⟨1,8,[.fz (.i .i64 0)],(.int .i64),false,false,[]⟩:=by kernel_rfl
@[go_sem] theorem ti3:zar Tryz.prog 3=some ⟨1,8,[.fz (.i .i64 0)],(.int .i64),false,false,[]⟩:=by kernel_rfl
@[go_sem] theorem ti4:zar Tryz.prog 4=some ⟨1,1,[.fz (.b false)],.bool,false,false,[]⟩:=by kernel_rfl
@[go_sem] theorem ti5:zar Tryz.prog 5=some ⟨1,1,[.fz (.i .u8 0)],(.int .u8),false,false,[]⟩:=by kernel_rfl
@[go_sem] theorem ti6:zar Tryz.prog 6=some ⟨1,1,[.fz (.i .u8 0)],(.int .u8),false,false,[]⟩:=by kernel_rfl
@[go_sem] theorem ti7:zar Tryz.prog 7=some ⟨4,24,[.fz (.i .i64 0),.fz (.i .i64 0),.fz (.b false),.fz (.i .u8 0)],(.struct [(0,2),(1,3),(2,4),(3,6)]),true,true,[(.int .i64),(.int .i64),.bool,(.int .u8)]⟩:=by kernel_rfl
@[go_sem] theorem ti8:zar Tryz.prog 8=some ⟨4,24,[.fz (.i .i64 0),.fz (.i .i64 0),.fz (.b false),.fz (.i .u8 0)],(.struct [(0,2),(1,3),(2,4),(3,6)]),true,true,[(.int .i64),(.int .i64),.bool,(.int .u8)]⟩:=by kernel_rfl
@[go_sem] theorem ti9:zar Tryz.prog 9=some ⟨1,16,[.fz (.s [])],.str,false,false,[]⟩:=by kernel_rfl
@[go_sem] theorem zKL:zar Tryz.prog 10=some ⟨1,16,[.fz (.s [])],.str,false,false,[]⟩:=by kernel_rfl
@[go_sem] theorem zKM:zar Tryz.prog 11=some ⟨1,16,[.fz (.s [])],.str,false,false,[]⟩:=by kernel_rfl
@[go_sem] theorem zKN:zar Tryz.prog 12=some ⟨1,8,[.fz (.i .u64 0)],(.int .u64),false,false,[]⟩:=by kernel_rfl
@[go_sem] theorem zKO:zar Tryz.prog 13=some ⟨2,24,[.fz (.s []),.fz (.i .u64 0)],(.struct [(0,9),(1,12)]),true,false,[.str,(.int .u64)]⟩:=by kernel_rfl
@[go_sem] theorem zKP:zar Tryz.prog 14=some ⟨2,24,[.fz (.s []),.fz (.i .u64 0)],(.struct [(0,9),(1,12)]),true,false,[.str,(.int .u64)]⟩:=by kernel_rfl
@[go_sem] theorem zKQ:zar Tryz.prog 18=some ⟨1,8,[.junk],(.struct [(0,17)]),true,false,[.ptr]⟩:=by kernel_rfl
@[go_sem] theorem zKR:zar Tryz.prog 19=some ⟨1,8,[.junk],(.struct [(0,17)]),true,false,[.ptr]⟩:=by kernel_rfl
@[go_sem] theorem zKS:zar Tryz.prog 21=some ⟨1,4,[.fz (.i .i32 0)],(.int .i32),false,false,[]⟩:=by kernel_rfl
@[go_sem] theorem zKT:zar Tryz.prog 22=some ⟨1,24,[.full []],(.slice 25),false,false,[]⟩:=by kernel_rfl
@[go_sem] theorem zKU:zar Tryz.prog 23=some ⟨1,24,[.full []],(.slice 9),false,false,[]⟩:=by kernel_rfl
@[go_sem] theorem zKV:zar Tryz.prog 24=some ⟨4,72,[.fz (.i .i64 0),.fz (.s []),.full [],.full []],(.struct [(0,3),(1,9),(2,23),(3,22)]),true,false,[(.int .i64),.str,(.slice 9),(.slice 25)]⟩:=by kernel_rfl
@[go_sem] theorem zKW:zar Tryz.prog 25=some ⟨4,72,[.fz (.i .i64 0),.fz (.s []),.full [],.full []],(.struct [(0,3),(1,9),(2,23),(3,22)]),true,false,[(.int .i64),.str,(.slice 9),(.slice 25)]⟩:=by kernel_rfl
@[go_sem] theorem zKX:zar Tryz.prog 26=some ⟨1,24,[.full []],(.slice 28),false,false,[]⟩:=by kernel_rfl
@[go_sem] theorem zKY:zar Tryz.prog 27=some ⟨5,64,[.fz (.i .i64 0),.fz (.i .i64 0),.fz (.i .i64 0),.fz (.s []),.full []],(.struct [(0,3),(1,3),(2,3),(3,9),(4,26)]),true,false,[(.int .i64),(.int .i64),(.int .i64),.str,(.slice 28)]⟩:=by kernel_rfl
@[go_sem] theorem zKZ:zar Tryz.prog 28=some ⟨5,64,[.fz (.i .i64 0),.fz (.i .i64 0),.fz (.i .i64 0),.fz (.s []),.full []],(.struct [(0,3),(1,3),(2,3),(3,9),(4,26)]),true,false,[(.int .i64),(.int .i64),(.int .i64),.str,(.slice 28)]⟩:=by kernel_rfl
@[go_sem] theorem zK0:zar Tryz.prog 29=some ⟨2,16,[.fz (.i .i64 0),.fz (.i .i64 0)],(.struct [(0,3),(1,3)]),true,true,[(.int .i64),(.int .i64)]⟩:=by kernel_rfl
@[go_sem] theorem zJ4:zar Tryz.prog 30=some ⟨2,16,[.fz (.i .i64 0),.fz (.i .i64 0)],(.struct [(0,3),(1,3)]),true,true,[(.int .i64),(.int .i64)]⟩:=by kernel_rfl
@[go_sem] theorem zK1:zar Tryz.prog 32=some ⟨1,8,[.fz (.nilf)],.func,false,false,[]⟩:=by kernel_rfl
@[go_sem] theorem zK2:zar Tryz.prog 33=some ⟨1,8,[.fz (.nilf)],.func,false,false,[]⟩:=by kernel_rfl
@[go_sem] theorem zK3:zar Tryz.prog 34=some ⟨1,8,[.fz (.nilf)],.func,false,false,[]⟩:=by kernel_rfl
@[go_sem] theorem zK4:zar Tryz.prog 35=some ⟨1,8,[.fz (.nilf)],.func,false,false,[]⟩:=by kernel_rfl
@[go_sem] theorem zK5:zar Tryz.prog 37=some ⟨1,8,[.fz (.nilf)],.func,false,false,[]⟩:=by kernel_rfl
@[go_sem] theorem zK6:zar Tryz.prog 38=some ⟨1,8,[.fz (.nilf)],.func,false,false,[]⟩:=by kernel_rfl
@[go_sem] theorem zK7:zar Tryz.prog 39=some ⟨1,8,[.fz (.nilf)],.func,false,false,[]⟩:=by kernel_rfl
@[go_sem] theorem zK8:zar Tryz.prog 40=some ⟨1,8,[.fz (.nilf)],.func,false,false,[]⟩:=by kernel_rfl
@[go_sem] theorem zK9:zar Tryz.prog 42=some ⟨1,8,[.fz (.nilf)],.func,false,false,[]⟩:=by kernel_rfl
@[go_sem] theorem zLa:zar Tryz.prog 44=some ⟨2,16,[.fz (.i .i64 0),.fz (.i .i64 0)],(.struct [(0,3),(1,3)]),true,true,[(.int .i64),(.int .i64)]⟩:=by kernel_rfl
@[go_sem] theorem zLb:zar Tryz.prog 45=some ⟨2,16,[.fz (.i .i64 0),.fz (.i .i64 0)],(.struct [(0,3),(1,3)]),true,true,[(.int .i64),(.int .i64)]⟩:=by kernel_rfl
@[go_sem] theorem zLc:zar Tryz.prog 47=some ⟨1,8,[.fz (.nilf)],.func,false,false,[]⟩:=by kernel_rfl
@[go_sem] theorem zLd:zar Tryz.prog 48=some ⟨1,24,[.full []],(.slice 4),false,false,[]⟩:=by kernel_rfl
@[go_sem] theorem zLe:zar Tryz.prog 49=some ⟨1,24,[.full []],(.slice 23),false,false,[]⟩:=by kernel_rfl
@[go_sem] theorem zLf:zar Tryz.prog 50=some ⟨4,80,[.full [],.full [],.full [],.fz (.i .i64 0)],(.struct [(0,22),(1,48),(2,49),(3,3)]),true,false,[(.slice 25),(.slice 4),(.slice 23),(.int .i64)]⟩:=by kernel_rfl
@[go_sem] theorem zLg:zar Tryz.prog 51=some ⟨4,80,[.full [],.full [],.full [],.fz (.i .i64 0)],(.struct [(0,22),(1,48),(2,49),(3,3)]),true,false,[(.slice 25),(.slice 4),(.slice 23),(.int .i64)]⟩:=by kernel_rfl
@[go_sem] theorem zLh:zar Tryz.prog 52=some ⟨1,8,[.fz (.nilf)],.func,false,false,[]⟩:=by kernel_rfl
@[go_sem] theorem zLi:zar Tryz.prog 53=some ⟨1,8,[.fz (.nilf)],.func,false,false,[]⟩:=by kernel_rfl
@[go_sem] theorem zLj:zar Tryz.prog 54=some ⟨1,8,[.fz (.nilf)],.func,false,false,[]⟩:=by kernel_rfl
@[go_sem] theorem zLk:zar Tryz.prog 55=some ⟨1,8,[.fz (.nilf)],.func,false,false,[]⟩:=by kernel_rfl
@[go_sem] theorem zLl:zar Tryz.prog 56=some ⟨1,8,[.fz (.nilf)],.func,false,false,[]⟩:=by kernel_rfl
@[go_sem] theorem zLm:zar Tryz.prog 58=some ⟨1,24,[.full []],(.slice 3),false,false,[]⟩:=by kernel_rfl
@[go_sem] theorem zLn:zar Tryz.prog 60=some ⟨1,8,[.fz (.nilf)],.func,false,false,[]⟩:=by kernel_rfl
@[go_sem] theorem zLo:zar Tryz.prog 61=some ⟨1,8,[.fz (.nilf)],.func,false,false,[]⟩:=by kernel_rfl
@[go_sem] theorem zLp:zar Tryz.prog 62=some ⟨1,8,[.fz (.nilf)],.func,false,false,[]⟩:=by kernel_rfl
@[go_sem] theorem zLq:zar Tryz.prog 63=some ⟨1,8,[.fz (.nilf)],.func,false,false,[]⟩:=by kernel_rfl
@[go_sem] theorem zLr:zar Tryz.prog 64=some ⟨1,8,[.fz (.nilf)],.func,false,false,[]⟩:=by kernel_rfl
@[go_sem] theorem zLs:zar Tryz.prog 65=some ⟨1,8,[.fz (.nilf)],.func,false,false,[]⟩:=by kernel_rfl
@[go_sem] theorem zLt:zar Tryz.prog 66=some ⟨1,8,[.fz (.nilf)],.func,false,false,[]⟩:=by kernel_rfl
@[go_sem] theorem zLu:zar Tryz.prog 67=some ⟨1,8,[.fz (.nilf)],.func,false,false,[]⟩:=by kernel_rfl
@[go_sem] theorem zLv:zar Tryz.prog 68=some ⟨1,8,[.fz (.nilf)],.func,false,false,[]⟩:=by kernel_rfl
@[go_sem] theorem zLw:zar Tryz.prog 69=some ⟨1,8,[.fz (.nilf)],.func,false,false,[]⟩:=by kernel_rfl
@[go_sem] theorem zLx:zar Tryz.prog 70=some ⟨1,8,[.fz (.nilf)],.func,false,false,[]⟩:=by kernel_rfl
@[go_sem] theorem zLy:zar Tryz.prog 72=some ⟨1,8,[.fz (.nilf)],.func,false,false,[]⟩:=by kernel_rfl
@[go_sem] theorem zLz:zar Tryz.prog 74=some ⟨1,8,[.fz (.nilf)],.func,false,false,[]⟩:=by kernel_rfl
@[go_sem] theorem zLA:zar Tryz.prog 75=some ⟨1,8,[.fz (.nilf)],.func,false,false,[]⟩:=by kernel_rfl
@[go_sem] theorem zLB:zar Tryz.prog 76=some ⟨1,8,[.fz (.nilf)],.func,false,false,[]⟩:=by kernel_rfl
@[go_sem] theorem zLC:zar Tryz.prog 77=some ⟨1,8,[.fz (.nilf)],.func,false,false,[]⟩:=by kernel_rfl
@[go_sem] theorem zLD:zar Tryz.prog 78=some ⟨1,8,[.fz (.nilf)],.func,false,false,[]⟩:=by kernel_rfl
@[go_sem] theorem zLE:zar Tryz.prog 79=some ⟨1,8,[.fz (.nilf)],.func,false,false,[]⟩:=by kernel_rfl
@[go_sem] theorem zLF:zar Tryz.prog 80=some ⟨1,8,[.fz (.nilf)],.func,false,false,[]⟩:=by kernel_rfl
@[go_sem] theorem zLG:zar Tryz.prog 81=some ⟨1,8,[.fz (.nilf)],.func,false,false,[]⟩:=by kernel_rfl
@[go_sem] theorem zLH:zar Tryz.prog 82=some ⟨1,24,[.full []],(.slice 85),false,false,[]⟩:=by kernel_rfl
@[go_sem] theorem zLI:zar Tryz.prog 83=some ⟨1,8,[.fz (.nilf)],.func,false,false,[]⟩:=by kernel_rfl
@[go_sem] theorem zLJ:zar Tryz.prog 84=some ⟨2,24,[.fz (.i .i64 0),.fz (.s [])],(.struct [(0,3),(1,9)]),true,true,[(.int .i64),.str]⟩:=by kernel_rfl
@[go_sem] theorem zLK:zar Tryz.prog 85=some ⟨2,24,[.fz (.i .i64 0),.fz (.s [])],(.struct [(0,3),(1,9)]),true,true,[(.int .i64),.str]⟩:=by kernel_rfl
@[go_sem] theorem zLL:zar Tryz.prog 87=some ⟨1,8,[.fz (.nilf)],.func,false,false,[]⟩:=by kernel_rfl
@[go_sem] theorem zLM:zar Tryz.prog 88=some ⟨1,8,[.fz (.nilf)],.func,false,false,[]⟩:=by kernel_rfl
@[go_sem] theorem zLN:zar Tryz.prog 89=some ⟨1,8,[.fz (.nilf)],.func,false,false,[]⟩:=by kernel_rfl
@[go_sem] theorem zLO:zar Tryz.prog 90=some ⟨1,8,[.fz (.nilf)],.func,false,false,[]⟩:=by kernel_rfl
@[go_sem] theorem zLP:zar Tryz.prog 91=some ⟨1,8,[.fz (.nilf)],.func,false,false,[]⟩:=by kernel_rfl
@[go_sem] theorem zLQ:zar Tryz.prog 92=some ⟨1,24,[.full []],(.slice 114),false,false,[]⟩:=by kernel_rfl
@[go_sem] theorem zLR:zar Tryz.prog 93=some ⟨1,24,[.full []],(.slice 114),false,false,[]⟩:=by kernel_rfl
@[go_sem] theorem zLS:zar Tryz.prog 94=some ⟨1,8,[.fz (.nilf)],.func,false,false,[]⟩:=by kernel_rfl
@[go_sem] theorem zLT:zar Tryz.prog 95=some ⟨1,8,[.fz (.nilf)],.func,false,false,[]⟩:=by kernel_rfl
@[go_sem] theorem zLU:zar Tryz.prog 96=some ⟨1,8,[.fz (.nilf)],.func,false,false,[]⟩:=by kernel_rfl
@[go_sem] theorem zLV:zar Tryz.prog 97=some ⟨1,8,[.fz (.nilf)],.func,false,false,[]⟩:=by kernel_rfl
@[go_sem] theorem zLW:zar Tryz.prog 98=some ⟨5,80,[.fz (.i .i64 0),.fz (.s []),.full [],.full [],.fz (.i .i64 0)],(.struct [(0,25),(4,3)]),true,false,[(.struct [(0,3),(1,9),(2,23),(3,22)]),(.int .i64)]⟩:=by kernel_rfl
@[go_sem] theorem zLX:zar Tryz.prog 99=some ⟨5,80,[.fz (.i .i64 0),.fz (.s []),.full [],.full [],.fz (.i .i64 0)],(.struct [(0,25),(4,3)]),true,false,[(.struct [(0,3),(1,9),(2,23),(3,22)]),(.int .i64)]⟩:=by kernel_rfl
@[go_sem] theorem zJd:zar Tryz.prog 100=some ⟨1,24,[.full []],(.slice 99),false,false,[]⟩:=by kernel_rfl
@[go_sem] theorem zJe:zar Tryz.prog 101=some ⟨1,8,[.fz (.nilf)],.func,false,false,[]⟩:=by kernel_rfl
@[go_sem] theorem zJf:zar Tryz.prog 102=some ⟨1,24,[.full []],(.slice 5),false,false,[]⟩:=by kernel_rfl
@[go_sem] theorem zJg:zar Tryz.prog 103=some ⟨1,8,[.fz (.nilf)],.func,false,false,[]⟩:=by kernel_rfl
@[go_sem] theorem zJh:zar Tryz.prog 104=some ⟨1,8,[.fz (.nilf)],.func,false,false,[]⟩:=by kernel_rfl
@[go_sem] theorem zJi:zar Tryz.prog 105=some ⟨1,8,[.fz (.nilf)],.func,false,false,[]⟩:=by kernel_rfl
@[go_sem] theorem zJj:zar Tryz.prog 106=some ⟨1,8,[.fz (.nilf)],.func,false,false,[]⟩:=by kernel_rfl
@[go_sem] theorem zJk:zar Tryz.prog 107=some ⟨1,24,[.full []],(.slice 109),false,false,[]⟩:=by kernel_rfl
@[go_sem] theorem zJl:zar Tryz.prog 108=some ⟨2,32,[.fz (.s []),.fz (.s [])],(.struct [(0,9),(1,9)]),true,true,[.str,.str]⟩:=by kernel_rfl
@[go_sem] theorem zJm:zar Tryz.prog 109=some ⟨2,32,[.fz (.s []),.fz (.s [])],(.struct [(0,9),(1,9)]),true,true,[.str,.str]⟩:=by kernel_rfl
@[go_sem] theorem zJn:zar Tryz.prog 110=some ⟨1,8,[.fz (.nilf)],.func,false,false,[]⟩:=by kernel_rfl
@[go_sem] theorem zJo:zar Tryz.prog 111=some ⟨1,8,[.fz (.nilf)],.func,false,false,[]⟩:=by kernel_rfl
@[go_sem] theorem zJp:zar Tryz.prog 112=some ⟨1,8,[.fz (.nilf)],.func,false,false,[]⟩:=by kernel_rfl
@[go_sem] theorem zJq:zar Tryz.prog 113=some ⟨2,32,[.fz (.s []),.fz (.s [])],(.struct [(0,9),(1,9)]),true,true,[.str,.str]⟩:=by kernel_rfl
@[go_sem] theorem zJr:zar Tryz.prog 114=some ⟨2,32,[.fz (.s []),.fz (.s [])],(.struct [(0,9),(1,9)]),true,true,[.str,.str]⟩:=by kernel_rfl
@[go_sem] theorem zJs:zar Tryz.prog 115=some ⟨1,8,[.fz (.nilf)],.func,false,false,[]⟩:=by kernel_rfl
@[go_sem] theorem zJt:zar Tryz.prog 116=some ⟨1,8,[.fz (.nilf)],.func,false,false,[]⟩:=by kernel_rfl
@[go_sem] theorem zJu:zar Tryz.prog 117=some ⟨1,8,[.fz (.nilf)],.func,false,false,[]⟩:=by kernel_rfl
@[go_sem] theorem zJv:zar Tryz.prog 118=some ⟨1,8,[.fz (.nilf)],.func,false,false,[]⟩:=by kernel_rfl
@[go_sem] theorem zJw:zar Tryz.prog 119=some ⟨1,8,[.fz (.nilf)],.func,false,false,[]⟩:=by kernel_rfl
@[go_sem] theorem zJx:zar Tryz.prog 120=some ⟨1,8,[.fz (.i .u64 0)],(.int .u64),false,false,[]⟩:=by kernel_rfl
@[go_sem] theorem zJy:zar Tryz.prog 121=some ⟨1,8,[.fz (.nilf)],.func,false,false,[]⟩:=by kernel_rfl
@[go_sem] theorem zJz:zar Tryz.prog 122=some ⟨1,8,[.fz (.nilf)],.func,false,false,[]⟩:=by kernel_rfl
@[go_sem] theorem zJA:zar Tryz.prog 123=some ⟨1,8,[.fz (.i .i64 0)],(.int .i64),false,false,[]⟩:=by kernel_rfl
@[go_sem] theorem zJB:zar Tryz.prog 125=some ⟨1,8,[.fz (.nilf)],.func,false,false,[]⟩:=by kernel_rfl
@[go_sem] theorem zJC:zar Tryz.prog 126=some ⟨1,8,[.fz (.nilf)],.func,false,false,[]⟩:=by kernel_rfl
@[go_sem] theorem zJD:zar Tryz.prog 127=some ⟨1,8,[.fz (.nilf)],.func,false,false,[]⟩:=by kernel_rfl
@[go_sem] theorem zJE:zar Tryz.prog 129=some ⟨1,8,[.fz (.nilf)],.func,false,false,[]⟩:=by kernel_rfl
@[go_sem] theorem zJF:zar Tryz.prog 130=some ⟨1,8,[.fz (.nilf)],.func,false,false,[]⟩:=by kernel_rfl
@[go_sem] theorem zJG:zar Tryz.prog 131=some ⟨1,4,[.fz (.i .u32 0)],(.int .u32),false,false,[]⟩:=by kernel_rfl
@[go_sem] theorem zJH:zar Tryz.prog 132=some ⟨1,8,[.fz (.nilf)],.func,false,false,[]⟩:=by kernel_rfl
@[go_sem] theorem zJI:zar Tryz.prog 133=some ⟨1,8,[.fz (.i .u64 0)],(.int .u64),false,false,[]⟩:=by kernel_rfl
@[go_sem] theorem zJJ:zar Tryz.prog 135=some ⟨1,8,[.fz (.nilf)],.func,false,false,[]⟩:=by kernel_rfl
@[go_sem] theorem zJK:zar Tryz.prog 137=some ⟨1,8,[.fz (.nilf)],.func,false,false,[]⟩:=by kernel_rfl
@[go_sem] theorem zJL:zar Tryz.prog 138=some ⟨1,8,[.fz (.i .u64 0)],(.int .u64),false,false,[]⟩:=by kernel_rfl
@[go_sem] theorem zJM:zar Tryz.prog 139=some ⟨1,8,[.fz (.nilf)],.func,false,false,[]⟩:=by kernel_rfl
@[go_sem] theorem zJN:zar Tryz.prog 140=some ⟨1,8,[.fz (.nilf)],.func,false,false,[]⟩:=by kernel_rfl
@[go_sem] theorem zJO:zar Tryz.prog 141=some ⟨1,8,[.fz (.nilf)],.func,false,false,[]⟩:=by kernel_rfl
@[go_sem] theorem zJP:zar Tryz.prog 142=some ⟨1,8,[.fz (.nilf)],.func,false,false,[]⟩:=by kernel_rfl
@[go_sem] theorem zJQ:zar Tryz.prog 143=some ⟨1,8,[.fz (.nilf)],.func,false,false,[]⟩:=by kernel_rfl
@[go_sem] theorem zJR:zar Tryz.prog 148=some ⟨1,8,[.fz (.nilf)],.func,false,false,[]⟩:=by kernel_rfl
@[go_sem] theorem zJS:zar Tryz.prog 151=some ⟨4,40,[.junk,.junk,.junk,.fz (.s [])],(.struct [(0,17),(1,17),(2,17),(3,9)]),true,false,[.ptr,.ptr,.ptr,.str]⟩:=by kernel_rfl
@[go_sem] theorem zJT:zar Tryz.prog 152=some ⟨4,40,[.junk,.junk,.junk,.fz (.s [])],(.struct [(0,17),(1,17),(2,17),(3,9)]),true,false,[.ptr,.ptr,.ptr,.str]⟩:=by kernel_rfl
@[go_sem] theorem zJU:zar Tryz.prog 154=some ⟨0,0,[],(.struct [(0,153)]),true,false,[.other]⟩:=by kernel_rfl
@[go_sem] theorem zJV:zar Tryz.prog 155=some ⟨0,0,[],(.struct [(0,153)]),true,false,[.other]⟩:=by kernel_rfl
@[go_sem] theorem zJW:zar Tryz.prog 156=some ⟨1,8,[.fz (.nilf)],.func,false,false,[]⟩:=by kernel_rfl
@[go_sem] theorem zJX:zar Tryz.prog 157=some ⟨1,1,[.fz (.i .u8 0)],(.int .u8),false,false,[]⟩:=by kernel_rfl
@[go_sem] theorem zJY:zar Tryz.prog 158=some ⟨1,1,[.fz (.i .u8 0)],(.int .u8),false,false,[]⟩:=by kernel_rfl
@[go_sem] theorem zJZ:zar Tryz.prog 159=some ⟨1,8,[.fz (.nilf)],.func,false,false,[]⟩:=by kernel_rfl
@[go_sem] theorem zJ0:zar Tryz.prog 161=some ⟨1,4,[.fz (.i .i32 0)],(.int .i32),false,false,[]⟩:=by kernel_rfl
@[go_sem] theorem zJ1:zar Tryz.prog 162=some ⟨1,4,[.fz (.i .i32 0)],(.int .i32),false,false,[]⟩:=by kernel_rfl
@[go_sem] theorem zJ2:zar Tryz.prog 163=some ⟨11,48,[.fz (.i .u64 0),.fz (.i .u64 0),.fz (.i .u32 0),.fz (.i .u8 0),.fz (.i .u8 0),.fz (.i .u8 0),.fz (.i .u8 0),.fz (.nilf),.junk,.fz (.i .i32 0),.fz (.i .i32 0)],(.struct [(0,12),(1,12),(2,131),(3,157),(4,5),(5,5),(6,158),(7,159),(8,160),(9,161),(10,162)]),true,false,[(.int .u64),(.int .u64),(.int .u32),(.int .u8),(.int .u8),(.int .u8),(.int .u8),.func,.ptr,(.int .i32),(.int .i32)]⟩:=by kernel_rfl
@[go_sem] theorem zJ3:zar Tryz.prog 164=some ⟨11,48,[.fz (.i .u64 0),.fz (.i .u64 0),.fz (.i .u32 0),.fz (.i .u8 0),.fz (.i .u8 0),.fz (.i .u8 0),.fz (.i .u8 0),.fz (.nilf),.junk,.fz (.i .i32 0),.fz (.i .i32 0)],(.struct [(0,12),(1,12),(2,131),(3,157),(4,5),(5,5),(6,158),(7,159),(8,160),(9,161),(10,162)]),true,false,[(.int .u64),(.int .u64),(.int .u32),(.int .u8),(.int .u8),(.int .u8),(.int .u8),.func,.ptr,(.int .i32),(.int .i32)]⟩:=by kernel_rfl
theorem ok3:zaq Tryz.prog 3:=Tryz.call3
theorem ok4:zaq Tryz.prog 4:=Tryz.call4
theorem ok5:zaq Tryz.prog 5:=Tryz.call5
theorem ok6:zaq Tryz.prog 6:=Tryz.call6
theorem ok7:zaq Tryz.prog 7:=Tryz.call7
theorem ok8:zaq Tryz.prog 8:=Tryz.call8
theorem ok9:zaq Tryz.prog 9:=Tryz.call9
theorem zG9:zaq Tryz.prog 10:=Tryz.call10
theorem zFD:zaq Tryz.prog 11:=Tryz.call11
theorem zII:zaq Tryz.prog 12:=Tryz.call12
theorem zIJ:zaq Tryz.prog 13:=Tryz.call13
theorem zHa:zaq Tryz.prog 14:=Tryz.call14
theorem zHb:zaq Tryz.prog 15:=Tryz.call15
theorem zHc:zaq Tryz.prog 16:=Tryz.call16
theorem zIK:zaq Tryz.prog 17:=Tryz.call17
theorem zHd:zaq Tryz.prog 18:=Tryz.call18
theorem zHe:zaq Tryz.prog 19:=Tryz.call19
theorem zHf:zaq Tryz.prog 20:=Tryz.call20
theorem zFE:zaq Tryz.prog 21:=Tryz.call21
theorem zlC:zaq Tryz.prog 22:=Tryz.call22
theorem zxv:zaq Tryz.prog 23:=Tryz.call23
theorem zHg:zaq Tryz.prog 24:=Tryz.call24
theorem zHh:zaq Tryz.prog 25:=Tryz.call25
theorem zHi:zaq Tryz.prog 26:=Tryz.call26
theorem zFF:zaq Tryz.prog 27:=Tryz.call27
theorem zHj:zaq Tryz.prog 28:=Tryz.call28
theorem zHk:zaq Tryz.prog 29:=Tryz.call29
theorem zHl:zaq Tryz.prog 30:=Tryz.call30
theorem zHm:zaq Tryz.prog 31:=Tryz.call31
theorem zHn:zaq Tryz.prog 32:=Tryz.call32
theorem zHo:zaq Tryz.prog 33:=Tryz.call33
theorem zFG:zaq Tryz.prog 34:=Tryz.call34
theorem zpt:zaq Tryz.prog 35:=Tryz.call35
theorem zHp:zaq Tryz.prog 36:=Tryz.call36
theorem zIL:zaq Tryz.prog 37:=Tryz.call37
theorem zHq:zaq Tryz.prog 38:=Tryz.call38
theorem zHr:zaq Tryz.prog 39:=Tryz.call39
theorem zHs:zaq Tryz.prog 40:=Tryz.call40
theorem zFH:zaq Tryz.prog 41:=Tryz.call41
theorem zIM:zaq Tryz.prog 42:=Tryz.call42
theorem zFI:zaq Tryz.prog 43:=Tryz.call43
theorem zHt:zaq Tryz.prog 44:=Tryz.call44
theorem zHu:zaq Tryz.prog 45:=Tryz.call45
theorem zHv:zaq Tryz.prog 46:=Tryz.call46
theorem zuV:zaq Tryz.prog 47:=Tryz.call47
theorem zHw:zaq Tryz.prog 48:=Tryz.call48
theorem zAh:zaq Tryz.prog 49:=Tryz.call49
theorem zHx:zaq Tryz.prog 50:=Tryz.call50
theorem zIN:zaq Tryz.prog 51:=Tryz.call51
theorem zHy:zaq Tryz.prog 52:=Tryz.call52
theorem zHz:zaq Tryz.prog 53:=Tryz.call53
theorem zHA:zaq Tryz.prog 54:=Tryz.call54
theorem zHB:zaq Tryz.prog 55:=Tryz.call55
theorem zBX:zaq Tryz.prog 56:=Tryz.call56
theorem zBY:zaq Tryz.prog 57:=Tryz.call57
theorem zHC:zaq Tryz.prog 58:=Tryz.call58
theorem zIO:zaq Tryz.prog 59:=Tryz.call59
theorem zIP:zaq Tryz.prog 60:=Tryz.call60
theorem zHD:zaq Tryz.prog 61:=Tryz.call61
theorem zHE:zaq Tryz.prog 63:=Tryz.call63
theorem zHF:zaq Tryz.prog 64:=Tryz.call64
theorem zHG:zaq Tryz.prog 65:=Tryz.call65
theorem zIQ:zaq Tryz.prog 66:=Tryz.call66
theorem zHH:zaq Tryz.prog 67:=Tryz.call67
theorem zHI:zaq Tryz.prog 68:=Tryz.call68
theorem zHJ:zaq Tryz.prog 69:=Tryz.call69
theorem zHK:zaq Tryz.prog 70:=Tryz.call70
theorem zIR:zaq Tryz.prog 71:=Tryz.call71
theorem zIS:zaq Tryz.prog 72:=Tryz.call72
theorem zHL:zaq Tryz.prog 73:=Tryz.call73
theorem zHM:zaq Tryz.prog 74:=Tryz.call74
theorem zHN:zaq Tryz.prog 75:=Tryz.call75
theorem zIT:zaq Tryz.prog 76:=Tryz.call76
end Go.Proofs.YtdlioodgfopmfaaGreatDoor
