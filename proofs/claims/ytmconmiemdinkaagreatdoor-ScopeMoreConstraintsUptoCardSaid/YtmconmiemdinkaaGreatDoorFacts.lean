import Derived.Test.YtmconmiemdinkaaGreatDoorProg
import Derived.Test.YtmconmiemdinkaaGreatDoorA2
import Derived.KernelRfl
namespace Go.Proofs.YtmconmiemdinkaaGreatDoor
open Go Go.Abs Go.Proofs
theorem hm:Tryz.prog.follows .mixedOrders=true:=by kernel_rfl
@[go_sem] theorem ti1:zaj Tryz.prog 1=some ⟨1,8,[.fz (.nilf)],.func,false,false,[]⟩:=by kernel_rfl
@[go_sem] theorem ti2:zaj Tryz.prog 2=some ⟨1,8,[.fz (.i .i64 0)],(.int .i64),false,false,[]⟩:=by kernel_rfl
@[go_sem] theorem ti3:zaj Tryz.prog 3=some ⟨1,8,[.fz (.i .i64 0)],(.int .i64),false,false,[]⟩:=by kernel_rfl
@[go_sem] theorem ti4:zaj Tryz.prog 4=some ⟨1,1,[.fz (.b false)],.bool,false,false,[]⟩:=by kernel_rfl
@[go_sem] theorem ti5:zaj Tryz.prog 5=some ⟨1,1,[.fz (.i .u8 0)],(.int .u8),false,false,[]⟩:=by kernel_rfl
@[go_sem] theorem ti6:zaj Tryz.prog 6=some ⟨1,1,[.fz (.i .u8 0)],(.int .u8),false,false,[]⟩:=by kernel_rfl
@[go_sem] theorem ti7:zaj Tryz.prog 7=some ⟨4,24,[.fz (.i .i64 0),.fz (.i .i64 0),.fz (.b false),.fz (.i .u8 0)],(.struct [(0,2),(1,3),(2,4),(3,6)]),true,true,[(.int .i64),(.int .i64),.bool,(.int .u8)]⟩:=by kernel_rfl
@[go_sem] theorem ti8:zaj Tryz.prog 8=some ⟨4,24,[.fz (.i .i64 0),.fz (.i .i64 0),.fz (.b false),.fz (.i .u8 0)],(.struct [(0,2),(1,3),(2,4),(3,6)]),true,true,[(.int .i64),(.int .i64),.bool,(.int .u8)]⟩:=by kernel_rfl
@[go_sem] theorem ti9:zaj Tryz.prog 9=some ⟨1,16,[.fz (.s [])],.str,false,false,[]⟩:=by kernel_rfl
@[go_sem] theorem zLc:zaj Tryz.prog 10=some ⟨1,16,[.fz (.s [])],.str,false,false,[]⟩:=by kernel_rfl
@[go_sem] theorem zLd:zaj Tryz.prog 11=some ⟨1,16,[.fz (.s [])],.str,false,false,[]⟩:=by kernel_rfl
@[go_sem] theorem zLe:zaj Tryz.prog 12=some ⟨1,8,[.fz (.i .u64 0)],(.int .u64),false,false,[]⟩:=by kernel_rfl
@[go_sem] theorem zLf:zaj Tryz.prog 13=some ⟨2,24,[.fz (.s []),.fz (.i .u64 0)],(.struct [(0,9),(1,12)]),true,false,[.str,(.int .u64)]⟩:=by kernel_rfl
@[go_sem] theorem zLg:zaj Tryz.prog 14=some ⟨2,24,[.fz (.s []),.fz (.i .u64 0)],(.struct [(0,9),(1,12)]),true,false,[.str,(.int .u64)]⟩:=by kernel_rfl
@[go_sem] theorem zLh:zaj Tryz.prog 18=some ⟨1,8,[.junk],(.struct [(0,17)]),true,false,[.ptr]⟩:=by kernel_rfl
@[go_sem] theorem zLi:zaj Tryz.prog 19=some ⟨1,8,[.junk],(.struct [(0,17)]),true,false,[.ptr]⟩:=by kernel_rfl
@[go_sem] theorem zLj:zaj Tryz.prog 21=some ⟨1,4,[.fz (.i .i32 0)],(.int .i32),false,false,[]⟩:=by kernel_rfl
@[go_sem] theorem zLk:zaj Tryz.prog 22=some ⟨1,24,[.full []],(.slice 47),false,false,[]⟩:=by kernel_rfl
@[go_sem] theorem zLl:zaj Tryz.prog 23=some ⟨1,24,[.full []],(.slice 28),false,false,[]⟩:=by kernel_rfl
@[go_sem] theorem zLm:zaj Tryz.prog 24=some ⟨1,24,[.full []],(.slice 9),false,false,[]⟩:=by kernel_rfl
@[go_sem] theorem zLn:zaj Tryz.prog 25=some ⟨3,72,[.full [],.full [],.full []],(.struct [(0,22),(1,23),(2,24)]),true,false,[(.slice 47),(.slice 28),(.slice 9)]⟩:=by kernel_rfl
@[go_sem] theorem zLo:zaj Tryz.prog 26=some ⟨3,72,[.full [],.full [],.full []],(.struct [(0,22),(1,23),(2,24)]),true,false,[(.slice 47),(.slice 28),(.slice 9)]⟩:=by kernel_rfl
@[go_sem] theorem zLp:zaj Tryz.prog 27=some ⟨2,32,[.fz (.s []),.fz (.s [])],(.struct [(0,9),(1,9)]),true,true,[.str,.str]⟩:=by kernel_rfl
@[go_sem] theorem zLq:zaj Tryz.prog 28=some ⟨2,32,[.fz (.s []),.fz (.s [])],(.struct [(0,9),(1,9)]),true,true,[.str,.str]⟩:=by kernel_rfl
@[go_sem] theorem zLr:zaj Tryz.prog 29=some ⟨1,8,[.fz (.nilf)],.func,false,false,[]⟩:=by kernel_rfl
@[go_sem] theorem zLs:zaj Tryz.prog 30=some ⟨1,24,[.full []],(.slice 37),false,false,[]⟩:=by kernel_rfl
@[go_sem] theorem zLt:zaj Tryz.prog 31=some ⟨2,16,[.fz (.i .i64 0),.fz (.i .i64 0)],(.struct [(0,3),(1,3)]),true,true,[(.int .i64),(.int .i64)]⟩:=by kernel_rfl
@[go_sem] theorem zLu:zaj Tryz.prog 32=some ⟨2,16,[.fz (.i .i64 0),.fz (.i .i64 0)],(.struct [(0,3),(1,3)]),true,true,[(.int .i64),(.int .i64)]⟩:=by kernel_rfl
@[go_sem] theorem zLv:zaj Tryz.prog 34=some ⟨1,8,[.fz (.nilf)],.func,false,false,[]⟩:=by kernel_rfl
@[go_sem] theorem zLw:zaj Tryz.prog 35=some ⟨1,8,[.fz (.nilf)],.func,false,false,[]⟩:=by kernel_rfl
@[go_sem] theorem zLx:zaj Tryz.prog 36=some ⟨4,72,[.fz (.i .i64 0),.fz (.s []),.full [],.full []],(.struct [(0,3),(1,9),(2,24),(3,30)]),true,false,[(.int .i64),.str,(.slice 9),(.slice 37)]⟩:=by kernel_rfl
@[go_sem] theorem zLy:zaj Tryz.prog 37=some ⟨4,72,[.fz (.i .i64 0),.fz (.s []),.full [],.full []],(.struct [(0,3),(1,9),(2,24),(3,30)]),true,false,[(.int .i64),.str,(.slice 9),(.slice 37)]⟩:=by kernel_rfl
@[go_sem] theorem zLz:zaj Tryz.prog 38=some ⟨1,8,[.fz (.nilf)],.func,false,false,[]⟩:=by kernel_rfl
@[go_sem] theorem zLA:zaj Tryz.prog 39=some ⟨1,8,[.fz (.nilf)],.func,false,false,[]⟩:=by kernel_rfl
@[go_sem] theorem zLB:zaj Tryz.prog 41=some ⟨1,8,[.fz (.nilf)],.func,false,false,[]⟩:=by kernel_rfl
@[go_sem] theorem zLC:zaj Tryz.prog 42=some ⟨1,8,[.fz (.nilf)],.func,false,false,[]⟩:=by kernel_rfl
@[go_sem] theorem zLD:zaj Tryz.prog 43=some ⟨1,8,[.fz (.nilf)],.func,false,false,[]⟩:=by kernel_rfl
@[go_sem] theorem zLE:zaj Tryz.prog 44=some ⟨1,8,[.fz (.nilf)],.func,false,false,[]⟩:=by kernel_rfl
@[go_sem] theorem zLF:zaj Tryz.prog 45=some ⟨1,8,[.fz (.nilf)],.func,false,false,[]⟩:=by kernel_rfl
@[go_sem] theorem zLG:zaj Tryz.prog 46=some ⟨5,88,[.fz (.s []),.fz (.i .i64 0),.fz (.s []),.full [],.full []],(.struct [(0,9),(1,37)]),true,false,[.str,(.struct [(0,3),(1,9),(2,24),(3,30)])]⟩:=by kernel_rfl
@[go_sem] theorem zLH:zaj Tryz.prog 47=some ⟨5,88,[.fz (.s []),.fz (.i .i64 0),.fz (.s []),.full [],.full []],(.struct [(0,9),(1,37)]),true,false,[.str,(.struct [(0,3),(1,9),(2,24),(3,30)])]⟩:=by kernel_rfl
@[go_sem] theorem zLI:zaj Tryz.prog 48=some ⟨1,8,[.fz (.nilf)],.func,false,false,[]⟩:=by kernel_rfl
@[go_sem] theorem zLJ:zaj Tryz.prog 50=some ⟨1,8,[.fz (.nilf)],.func,false,false,[]⟩:=by kernel_rfl
@[go_sem] theorem zLK:zaj Tryz.prog 51=some ⟨1,8,[.fz (.nilf)],.func,false,false,[]⟩:=by kernel_rfl
@[go_sem] theorem zLL:zaj Tryz.prog 52=some ⟨1,8,[.fz (.nilf)],.func,false,false,[]⟩:=by kernel_rfl
@[go_sem] theorem zLM:zaj Tryz.prog 54=some ⟨1,8,[.fz (.nilf)],.func,false,false,[]⟩:=by kernel_rfl
@[go_sem] theorem zLN:zaj Tryz.prog 56=some ⟨1,8,[.fz (.nilf)],.func,false,false,[]⟩:=by kernel_rfl
@[go_sem] theorem zLO:zaj Tryz.prog 57=some ⟨1,8,[.fz (.nilf)],.func,false,false,[]⟩:=by kernel_rfl
@[go_sem] theorem zLP:zaj Tryz.prog 58=some ⟨1,8,[.fz (.nilf)],.func,false,false,[]⟩:=by kernel_rfl
@[go_sem] theorem zLQ:zaj Tryz.prog 59=some ⟨1,8,[.fz (.nilf)],.func,false,false,[]⟩:=by kernel_rfl
@[go_sem] theorem zLR:zaj Tryz.prog 60=some ⟨1,8,[.fz (.nilf)],.func,false,false,[]⟩:=by kernel_rfl
@[go_sem] theorem zLS:zaj Tryz.prog 61=some ⟨1,24,[.full []],(.slice 65),false,false,[]⟩:=by kernel_rfl
@[go_sem] theorem zLT:zaj Tryz.prog 62=some ⟨1,8,[.fz (.nilf)],.func,false,false,[]⟩:=by kernel_rfl
@[go_sem] theorem zLU:zaj Tryz.prog 63=some ⟨1,24,[.full []],(.slice 3),false,false,[]⟩:=by kernel_rfl
@[go_sem] theorem zLV:zaj Tryz.prog 64=some ⟨3,56,[.full [],.full [],.fz (.i .i64 0)],(.struct [(0,24),(1,63),(2,3)]),true,false,[(.slice 9),(.slice 3),(.int .i64)]⟩:=by kernel_rfl
@[go_sem] theorem zLW:zaj Tryz.prog 65=some ⟨3,56,[.full [],.full [],.fz (.i .i64 0)],(.struct [(0,24),(1,63),(2,3)]),true,false,[(.slice 9),(.slice 3),(.int .i64)]⟩:=by kernel_rfl
@[go_sem] theorem zLX:zaj Tryz.prog 66=some ⟨1,8,[.fz (.nilf)],.func,false,false,[]⟩:=by kernel_rfl
@[go_sem] theorem zLY:zaj Tryz.prog 67=some ⟨1,8,[.fz (.nilf)],.func,false,false,[]⟩:=by kernel_rfl
@[go_sem] theorem zLZ:zaj Tryz.prog 68=some ⟨1,8,[.fz (.nilf)],.func,false,false,[]⟩:=by kernel_rfl
@[go_sem] theorem zL0:zaj Tryz.prog 69=some ⟨1,8,[.fz (.nilf)],.func,false,false,[]⟩:=by kernel_rfl
@[go_sem] theorem zL1:zaj Tryz.prog 70=some ⟨1,8,[.fz (.nilf)],.func,false,false,[]⟩:=by kernel_rfl
@[go_sem] theorem zL2:zaj Tryz.prog 71=some ⟨1,8,[.fz (.nilf)],.func,false,false,[]⟩:=by kernel_rfl
@[go_sem] theorem zL3:zaj Tryz.prog 72=some ⟨1,8,[.fz (.nilf)],.func,false,false,[]⟩:=by kernel_rfl
@[go_sem] theorem zL4:zaj Tryz.prog 73=some ⟨1,8,[.fz (.nilf)],.func,false,false,[]⟩:=by kernel_rfl
@[go_sem] theorem zL5:zaj Tryz.prog 74=some ⟨1,8,[.fz (.nilf)],.func,false,false,[]⟩:=by kernel_rfl
@[go_sem] theorem zL6:zaj Tryz.prog 75=some ⟨1,8,[.fz (.nilf)],.func,false,false,[]⟩:=by kernel_rfl
@[go_sem] theorem zL7:zaj Tryz.prog 76=some ⟨1,8,[.fz (.nilf)],.func,false,false,[]⟩:=by kernel_rfl
@[go_sem] theorem zL8:zaj Tryz.prog 78=some ⟨1,8,[.fz (.nilf)],.func,false,false,[]⟩:=by kernel_rfl
@[go_sem] theorem zL9:zaj Tryz.prog 79=some ⟨1,24,[.full []],(.slice 111),false,false,[]⟩:=by kernel_rfl
@[go_sem] theorem zMa:zaj Tryz.prog 81=some ⟨1,8,[.fz (.nilf)],.func,false,false,[]⟩:=by kernel_rfl
@[go_sem] theorem zMb:zaj Tryz.prog 82=some ⟨1,8,[.fz (.nilf)],.func,false,false,[]⟩:=by kernel_rfl
@[go_sem] theorem zMc:zaj Tryz.prog 83=some ⟨1,8,[.fz (.nilf)],.func,false,false,[]⟩:=by kernel_rfl
@[go_sem] theorem zMd:zaj Tryz.prog 84=some ⟨1,8,[.fz (.nilf)],.func,false,false,[]⟩:=by kernel_rfl
@[go_sem] theorem zMe:zaj Tryz.prog 85=some ⟨1,8,[.fz (.nilf)],.func,false,false,[]⟩:=by kernel_rfl
@[go_sem] theorem zMf:zaj Tryz.prog 86=some ⟨1,24,[.full []],(.slice 4),false,false,[]⟩:=by kernel_rfl
@[go_sem] theorem zMg:zaj Tryz.prog 87=some ⟨1,8,[.fz (.nilf)],.func,false,false,[]⟩:=by kernel_rfl
@[go_sem] theorem zMh:zaj Tryz.prog 88=some ⟨1,8,[.fz (.nilf)],.func,false,false,[]⟩:=by kernel_rfl
@[go_sem] theorem zMi:zaj Tryz.prog 89=some ⟨1,8,[.fz (.nilf)],.func,false,false,[]⟩:=by kernel_rfl
@[go_sem] theorem zMj:zaj Tryz.prog 90=some ⟨1,8,[.fz (.nilf)],.func,false,false,[]⟩:=by kernel_rfl
@[go_sem] theorem zMk:zaj Tryz.prog 91=some ⟨1,8,[.fz (.nilf)],.func,false,false,[]⟩:=by kernel_rfl
@[go_sem] theorem zMl:zaj Tryz.prog 92=some ⟨1,8,[.fz (.nilf)],.func,false,false,[]⟩:=by kernel_rfl
@[go_sem] theorem zMm:zaj Tryz.prog 93=some ⟨1,8,[.fz (.nilf)],.func,false,false,[]⟩:=by kernel_rfl
@[go_sem] theorem zMn:zaj Tryz.prog 94=some ⟨1,8,[.fz (.nilf)],.func,false,false,[]⟩:=by kernel_rfl
@[go_sem] theorem zMo:zaj Tryz.prog 95=some ⟨1,8,[.fz (.nilf)],.func,false,false,[]⟩:=by kernel_rfl
@[go_sem] theorem zMp:zaj Tryz.prog 96=some ⟨1,8,[.fz (.nilf)],.func,false,false,[]⟩:=by kernel_rfl
@[go_sem] theorem zMq:zaj Tryz.prog 97=some ⟨1,8,[.fz (.i .u64 0)],(.int .u64),false,false,[]⟩:=by kernel_rfl
@[go_sem] theorem zMr:zaj Tryz.prog 99=some ⟨1,24,[.full []],(.slice 5),false,false,[]⟩:=by kernel_rfl
@[go_sem] theorem zJd:zaj Tryz.prog 100=some ⟨2,32,[.junk,.full []],(.struct [(0,98),(1,99)]),true,false,[.ptr,(.slice 5)]⟩:=by kernel_rfl
@[go_sem] theorem zJe:zaj Tryz.prog 101=some ⟨2,32,[.junk,.full []],(.struct [(0,98),(1,99)]),true,false,[.ptr,(.slice 5)]⟩:=by kernel_rfl
@[go_sem] theorem zJf:zaj Tryz.prog 102=some ⟨1,8,[.fz (.nilf)],.func,false,false,[]⟩:=by kernel_rfl
@[go_sem] theorem zJg:zaj Tryz.prog 103=some ⟨1,8,[.fz (.nilf)],.func,false,false,[]⟩:=by kernel_rfl
@[go_sem] theorem zJh:zaj Tryz.prog 104=some ⟨5,80,[.fz (.i .i64 0),.fz (.s []),.full [],.full [],.fz (.i .i64 0)],(.struct [(0,37),(4,3)]),true,false,[(.struct [(0,3),(1,9),(2,24),(3,30)]),(.int .i64)]⟩:=by kernel_rfl
@[go_sem] theorem zJi:zaj Tryz.prog 105=some ⟨5,80,[.fz (.i .i64 0),.fz (.s []),.full [],.full [],.fz (.i .i64 0)],(.struct [(0,37),(4,3)]),true,false,[(.struct [(0,3),(1,9),(2,24),(3,30)]),(.int .i64)]⟩:=by kernel_rfl
@[go_sem] theorem zJj:zaj Tryz.prog 106=some ⟨1,24,[.full []],(.slice 105),false,false,[]⟩:=by kernel_rfl
@[go_sem] theorem zJk:zaj Tryz.prog 107=some ⟨1,8,[.fz (.nilf)],.func,false,false,[]⟩:=by kernel_rfl
@[go_sem] theorem zJl:zaj Tryz.prog 108=some ⟨1,8,[.fz (.nilf)],.func,false,false,[]⟩:=by kernel_rfl
@[go_sem] theorem zJm:zaj Tryz.prog 109=some ⟨1,8,[.fz (.nilf)],.func,false,false,[]⟩:=by kernel_rfl
@[go_sem] theorem zJn:zaj Tryz.prog 110=some ⟨1,8,[.fz (.nilf)],.func,false,false,[]⟩:=by kernel_rfl
@[go_sem] theorem zJo:zaj Tryz.prog 111=some ⟨1,24,[.full []],(.slice 3),false,false,[]⟩:=by kernel_rfl
@[go_sem] theorem zJp:zaj Tryz.prog 112=some ⟨1,8,[.fz (.nilf)],.func,false,false,[]⟩:=by kernel_rfl
@[go_sem] theorem zJq:zaj Tryz.prog 113=some ⟨1,8,[.fz (.nilf)],.func,false,false,[]⟩:=by kernel_rfl
@[go_sem] theorem zJr:zaj Tryz.prog 114=some ⟨1,8,[.fz (.nilf)],.func,false,false,[]⟩:=by kernel_rfl
@[go_sem] theorem zJs:zaj Tryz.prog 115=some ⟨1,8,[.fz (.nilf)],.func,false,false,[]⟩:=by kernel_rfl
@[go_sem] theorem zJt:zaj Tryz.prog 116=some ⟨1,8,[.fz (.nilf)],.func,false,false,[]⟩:=by kernel_rfl
@[go_sem] theorem zJu:zaj Tryz.prog 117=some ⟨1,8,[.fz (.nilf)],.func,false,false,[]⟩:=by kernel_rfl
@[go_sem] theorem zJv:zaj Tryz.prog 118=some ⟨1,8,[.fz (.nilf)],.func,false,false,[]⟩:=by kernel_rfl
@[go_sem] theorem zJw:zaj Tryz.prog 119=some ⟨1,8,[.fz (.nilf)],.func,false,false,[]⟩:=by kernel_rfl
@[go_sem] theorem zJx:zaj Tryz.prog 120=some ⟨1,8,[.fz (.nilf)],.func,false,false,[]⟩:=by kernel_rfl
@[go_sem] theorem zJy:zaj Tryz.prog 121=some ⟨1,24,[.full []],(.slice 123),false,false,[]⟩:=by kernel_rfl
@[go_sem] theorem zJz:zaj Tryz.prog 122=some ⟨2,32,[.fz (.s []),.fz (.s [])],(.struct [(0,9),(1,9)]),true,true,[.str,.str]⟩:=by kernel_rfl
@[go_sem] theorem zJA:zaj Tryz.prog 123=some ⟨2,32,[.fz (.s []),.fz (.s [])],(.struct [(0,9),(1,9)]),true,true,[.str,.str]⟩:=by kernel_rfl
@[go_sem] theorem zJB:zaj Tryz.prog 124=some ⟨1,8,[.fz (.nilf)],.func,false,false,[]⟩:=by kernel_rfl
@[go_sem] theorem zJC:zaj Tryz.prog 125=some ⟨1,8,[.fz (.nilf)],.func,false,false,[]⟩:=by kernel_rfl
@[go_sem] theorem zJD:zaj Tryz.prog 126=some ⟨1,8,[.fz (.i .i64 0)],(.int .i64),false,false,[]⟩:=by kernel_rfl
@[go_sem] theorem zJE:zaj Tryz.prog 128=some ⟨1,8,[.fz (.nilf)],.func,false,false,[]⟩:=by kernel_rfl
@[go_sem] theorem zJF:zaj Tryz.prog 129=some ⟨1,8,[.fz (.nilf)],.func,false,false,[]⟩:=by kernel_rfl
@[go_sem] theorem zJG:zaj Tryz.prog 130=some ⟨1,8,[.fz (.nilf)],.func,false,false,[]⟩:=by kernel_rfl
@[go_sem] theorem zJH:zaj Tryz.prog 132=some ⟨1,8,[.fz (.nilf)],.func,false,false,[]⟩:=by kernel_rfl
@[go_sem] theorem zJI:zaj Tryz.prog 133=some ⟨1,8,[.fz (.nilf)],.func,false,false,[]⟩:=by kernel_rfl
@[go_sem] theorem zJJ:zaj Tryz.prog 134=some ⟨1,4,[.fz (.i .u32 0)],(.int .u32),false,false,[]⟩:=by kernel_rfl
@[go_sem] theorem zJK:zaj Tryz.prog 135=some ⟨1,8,[.fz (.nilf)],.func,false,false,[]⟩:=by kernel_rfl
@[go_sem] theorem zJL:zaj Tryz.prog 136=some ⟨1,8,[.fz (.i .u64 0)],(.int .u64),false,false,[]⟩:=by kernel_rfl
@[go_sem] theorem zJM:zaj Tryz.prog 140=some ⟨1,8,[.fz (.nilf)],.func,false,false,[]⟩:=by kernel_rfl
@[go_sem] theorem zJN:zaj Tryz.prog 141=some ⟨1,8,[.fz (.nilf)],.func,false,false,[]⟩:=by kernel_rfl
@[go_sem] theorem zJO:zaj Tryz.prog 142=some ⟨1,8,[.fz (.nilf)],.func,false,false,[]⟩:=by kernel_rfl
@[go_sem] theorem zJP:zaj Tryz.prog 144=some ⟨1,8,[.fz (.nilf)],.func,false,false,[]⟩:=by kernel_rfl
@[go_sem] theorem zJQ:zaj Tryz.prog 145=some ⟨1,8,[.fz (.nilf)],.func,false,false,[]⟩:=by kernel_rfl
@[go_sem] theorem zJR:zaj Tryz.prog 146=some ⟨1,8,[.fz (.nilf)],.func,false,false,[]⟩:=by kernel_rfl
@[go_sem] theorem zJS:zaj Tryz.prog 148=some ⟨1,8,[.fz (.nilf)],.func,false,false,[]⟩:=by kernel_rfl
@[go_sem] theorem zJT:zaj Tryz.prog 149=some ⟨1,8,[.fz (.nilf)],.func,false,false,[]⟩:=by kernel_rfl
@[go_sem] theorem zJU:zaj Tryz.prog 150=some ⟨1,8,[.fz (.i .u64 0)],(.int .u64),false,false,[]⟩:=by kernel_rfl
@[go_sem] theorem zJV:zaj Tryz.prog 151=some ⟨1,8,[.fz (.nilf)],.func,false,false,[]⟩:=by kernel_rfl
@[go_sem] theorem zJW:zaj Tryz.prog 152=some ⟨1,8,[.fz (.nilf)],.func,false,false,[]⟩:=by kernel_rfl
@[go_sem] theorem zJX:zaj Tryz.prog 153=some ⟨1,8,[.fz (.nilf)],.func,false,false,[]⟩:=by kernel_rfl
@[go_sem] theorem zJY:zaj Tryz.prog 154=some ⟨1,8,[.fz (.nilf)],.func,false,false,[]⟩:=by kernel_rfl
@[go_sem] theorem zJZ:zaj Tryz.prog 155=some ⟨1,8,[.fz (.nilf)],.func,false,false,[]⟩:=by kernel_rfl
@[go_sem] theorem zJ0:zaj Tryz.prog 156=some ⟨1,8,[.fz (.nilf)],.func,false,false,[]⟩:=by kernel_rfl
@[go_sem] theorem zJ1:zaj Tryz.prog 157=some ⟨1,8,[.fz (.nilf)],.func,false,false,[]⟩:=by kernel_rfl
@[go_sem] theorem zJ2:zaj Tryz.prog 158=some ⟨1,8,[.fz (.nilf)],.func,false,false,[]⟩:=by kernel_rfl
@[go_sem] theorem zJ3:zaj Tryz.prog 159=some ⟨1,8,[.fz (.nilf)],.func,false,false,[]⟩:=by kernel_rfl
@[go_sem] theorem zJ4:zaj Tryz.prog 160=some ⟨1,8,[.fz (.nilf)],.func,false,false,[]⟩:=by kernel_rfl
@[go_sem] theorem zJ5:zaj Tryz.prog 162=some ⟨1,8,[.fz (.nilf)],.func,false,false,[]⟩:=by kernel_rfl
@[go_sem] theorem zJ6:zaj Tryz.prog 164=some ⟨1,8,[.fz (.nilf)],.func,false,false,[]⟩:=by kernel_rfl
@[go_sem] theorem zJ7:zaj Tryz.prog 166=some ⟨1,8,[.fz (.nilf)],.func,false,false,[]⟩:=by kernel_rfl
@[go_sem] theorem zJ8:zaj Tryz.prog 168=some ⟨1,8,[.fz (.nilf)],.func,false,false,[]⟩:=by kernel_rfl
@[go_sem] theorem zJ9:zaj Tryz.prog 169=some ⟨1,8,[.fz (.nilf)],.func,false,false,[]⟩:=by kernel_rfl
@[go_sem] theorem zKa:zaj Tryz.prog 170=some ⟨1,8,[.fz (.nilf)],.func,false,false,[]⟩:=by kernel_rfl
@[go_sem] theorem zKb:zaj Tryz.prog 171=some ⟨1,8,[.fz (.nilf)],.func,false,false,[]⟩:=by kernel_rfl
@[go_sem] theorem zKc:zaj Tryz.prog 174=some ⟨1,8,[.fz (.nilf)],.func,false,false,[]⟩:=by kernel_rfl
@[go_sem] theorem zKd:zaj Tryz.prog 175=some ⟨1,8,[.fz (.nilf)],.func,false,false,[]⟩:=by kernel_rfl
@[go_sem] theorem zKe:zaj Tryz.prog 176=some ⟨1,8,[.fz (.nilf)],.func,false,false,[]⟩:=by kernel_rfl
@[go_sem] theorem zKf:zaj Tryz.prog 179=some ⟨4,40,[.junk,.junk,.junk,.fz (.s [])],(.struct [(0,17),(1,17),(2,17),(3,9)]),true,false,[.ptr,.ptr,.ptr,.str]⟩:=by kernel_rfl
@[go_sem] theorem zKg:zaj Tryz.prog 180=some ⟨4,40,[.junk,.junk,.junk,.fz (.s [])],(.struct [(0,17),(1,17),(2,17),(3,9)]),true,false,[.ptr,.ptr,.ptr,.str]⟩:=by kernel_rfl
@[go_sem] theorem zKh:zaj Tryz.prog 182=some ⟨0,0,[],(.struct [(0,181)]),true,false,[.other]⟩:=by kernel_rfl
@[go_sem] theorem zKi:zaj Tryz.prog 183=some ⟨0,0,[],(.struct [(0,181)]),true,false,[.other]⟩:=by kernel_rfl
@[go_sem] theorem zKj:zaj Tryz.prog 184=some ⟨1,8,[.fz (.nilf)],.func,false,false,[]⟩:=by kernel_rfl
@[go_sem] theorem zKk:zaj Tryz.prog 185=some ⟨1,1,[.fz (.i .u8 0)],(.int .u8),false,false,[]⟩:=by kernel_rfl
@[go_sem] theorem zKl:zaj Tryz.prog 186=some ⟨1,1,[.fz (.i .u8 0)],(.int .u8),false,false,[]⟩:=by kernel_rfl
@[go_sem] theorem zKm:zaj Tryz.prog 187=some ⟨1,8,[.fz (.nilf)],.func,false,false,[]⟩:=by kernel_rfl
@[go_sem] theorem zKn:zaj Tryz.prog 188=some ⟨1,4,[.fz (.i .i32 0)],(.int .i32),false,false,[]⟩:=by kernel_rfl
@[go_sem] theorem zKo:zaj Tryz.prog 189=some ⟨1,4,[.fz (.i .i32 0)],(.int .i32),false,false,[]⟩:=by kernel_rfl
@[go_sem] theorem zKp:zaj Tryz.prog 190=some ⟨11,48,[.fz (.i .u64 0),.fz (.i .u64 0),.fz (.i .u32 0),.fz (.i .u8 0),.fz (.i .u8 0),.fz (.i .u8 0),.fz (.i .u8 0),.fz (.nilf),.junk,.fz (.i .i32 0),.fz (.i .i32 0)],(.struct [(0,12),(1,12),(2,134),(3,185),(4,5),(5,5),(6,186),(7,187),(8,143),(9,188),(10,189)]),true,false,[(.int .u64),(.int .u64),(.int .u32),(.int .u8),(.int .u8),(.int .u8),(.int .u8),.func,.ptr,(.int .i32),(.int .i32)]⟩:=by kernel_rfl
@[go_sem] theorem zKq:zaj Tryz.prog 191=some ⟨11,48,[.fz (.i .u64 0),.fz (.i .u64 0),.fz (.i .u32 0),.fz (.i .u8 0),.fz (.i .u8 0),.fz (.i .u8 0),.fz (.i .u8 0),.fz (.nilf),.junk,.fz (.i .i32 0),.fz (.i .i32 0)],(.struct [(0,12),(1,12),(2,134),(3,185),(4,5),(5,5),(6,186),(7,187),(8,143),(9,188),(10,189)]),true,false,[(.int .u64),(.int .u64),(.int .u32),(.int .u8),(.int .u8),(.int .u8),(.int .u8),.func,.ptr,(.int .i32),(.int .i32)]⟩:=by kernel_rfl
theorem ok5:zal Tryz.prog 5:=Tryz.call5
theorem ok6:zal Tryz.prog 6:=Tryz.call6
theorem ok7:zal Tryz.prog 7:=Tryz.call7
theorem ok8:zal Tryz.prog 8:=Tryz.call8
theorem ok9:zal Tryz.prog 9:=Tryz.call9
theorem zCZ:zal Tryz.prog 12:=Tryz.call12
theorem zKL:zal Tryz.prog 15:=Tryz.call15
theorem zGy:zal Tryz.prog 16:=Tryz.call16
theorem zKM:zal Tryz.prog 17:=Tryz.call17
theorem zGz:zal Tryz.prog 18:=Tryz.call18
theorem zGA:zal Tryz.prog 19:=Tryz.call19
theorem zE0:zal Tryz.prog 20:=Tryz.call20
theorem zE1:zal Tryz.prog 21:=Tryz.call21
theorem zGB:zal Tryz.prog 22:=Tryz.call22
theorem zGC:zal Tryz.prog 23:=Tryz.call23
theorem zGD:zal Tryz.prog 24:=Tryz.call24
theorem zGE:zal Tryz.prog 25:=Tryz.call25
theorem zGF:zal Tryz.prog 26:=Tryz.call26
theorem zE2:zal Tryz.prog 27:=Tryz.call27
theorem zIL:zal Tryz.prog 28:=Tryz.call28
theorem zC0:zal Tryz.prog 29:=Tryz.call29
theorem zGG:zal Tryz.prog 30:=Tryz.call30
theorem zIM:zal Tryz.prog 31:=Tryz.call31
theorem zGH:zal Tryz.prog 32:=Tryz.call32
theorem zGI:zal Tryz.prog 38:=Tryz.call38
theorem zGJ:zal Tryz.prog 39:=Tryz.call39
theorem zGK:zal Tryz.prog 40:=Tryz.call40
theorem zGL:zal Tryz.prog 41:=Tryz.call41
theorem zE3:zal Tryz.prog 42:=Tryz.call42
theorem zGM:zal Tryz.prog 43:=Tryz.call43
theorem zzz:zal Tryz.prog 45:=Tryz.call45
theorem zGN:zal Tryz.prog 48:=Tryz.call48
theorem zE4:zal Tryz.prog 49:=Tryz.call49
theorem zGO:zal Tryz.prog 50:=Tryz.call50
theorem zE5:zal Tryz.prog 51:=Tryz.call51
theorem zIN:zal Tryz.prog 52:=Tryz.call52
theorem zGP:zal Tryz.prog 53:=Tryz.call53
theorem zGQ:zal Tryz.prog 54:=Tryz.call54
theorem zGR:zal Tryz.prog 55:=Tryz.call55
theorem zGS:zal Tryz.prog 56:=Tryz.call56
theorem zGT:zal Tryz.prog 57:=Tryz.call57
theorem zGU:zal Tryz.prog 58:=Tryz.call58
theorem zGV:zal Tryz.prog 59:=Tryz.call59
theorem zGW:zal Tryz.prog 60:=Tryz.call60
theorem ztY:zal Tryz.prog 63:=Tryz.call63
theorem zIO:zal Tryz.prog 64:=Tryz.call64
theorem zGX:zal Tryz.prog 65:=Tryz.call65
theorem zGY:zal Tryz.prog 67:=Tryz.call67
theorem zIP:zal Tryz.prog 68:=Tryz.call68
theorem zGZ:zal Tryz.prog 69:=Tryz.call69
theorem zG0:zal Tryz.prog 70:=Tryz.call70
theorem zG1:zal Tryz.prog 71:=Tryz.call71
theorem zG2:zal Tryz.prog 77:=Tryz.call77
theorem zG3:zal Tryz.prog 78:=Tryz.call78
theorem zG4:zal Tryz.prog 79:=Tryz.call79
theorem zG5:zal Tryz.prog 81:=Tryz.call81
theorem zG6:zal Tryz.prog 82:=Tryz.call82
theorem zG7:zal Tryz.prog 83:=Tryz.call83
theorem zIQ:zal Tryz.prog 84:=Tryz.call84
theorem zIR:zal Tryz.prog 85:=Tryz.call85
theorem zwA:zal Tryz.prog 96:=Tryz.call96
theorem zG8:zal Tryz.prog 97:=Tryz.call97
theorem zx3:zal Tryz.prog 98:=Tryz.call98
theorem zBl:zal Tryz.prog 132:=Tryz.call132
end Go.Proofs.YtmconmiemdinkaaGreatDoor
