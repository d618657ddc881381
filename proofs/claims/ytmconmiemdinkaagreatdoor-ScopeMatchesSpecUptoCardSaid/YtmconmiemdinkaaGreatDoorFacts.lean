import Derived.Test.YtmconmiemdinkaaGreatDoorProg
import Derived.Test.YtmconmiemdinkaaGreatDoorA2
import Derived.KernelRfl
namespace Go.Proofs.YtmconmiemdinkaaGreatDoor
open Go Go.Abs Go.Proofs
theorem hm:Tryz.prog.follows .mixedOrders=true:=by kernel_rfl
@[go_sem] theorem ti1:zas Tryz.prog 1=some ⟨1,8,[.fz (.nilf)],.func,false,false,[]⟩:=by kernel_rfl
@[go_sem] theorem ti2:zas Tryz.prog 2=some ⟨1,8,[.fz (.i .i64 0)],(.int .i64),false,false,[]⟩:=by kernel_rfl
@[go_sem] theorem ti3:zas Tryz.prog 3=some ⟨1,8,[.fz (.i .i64 0)],(.int .i64),false,false,[]⟩:=by kernel_rfl
@[go_sem] theorem ti4:zas Tryz.prog 4=some ⟨1,1,[.fz (.b false)],.bool,false,false,[]⟩:=by kernel_rfl
@[go_sem] theorem ti5:zas Tryz.prog 5=some ⟨1,1,[.fz (.i .u8 0)],(.int .u8),false,false,[]⟩:=by kernel_rfl
@[go_sem] theorem ti6:zas Tryz.prog 6=some ⟨1,1,[.fz (.i .u8 0)],(.int .u8),false,false,[]⟩:=by kernel_rfl
@[go_sem] theorem ti7:zas Tryz.prog 7=some ⟨4,24,[.fz (.i .i64 0),.fz (.i .i64 0),.fz (.b false),.fz (.i .u8 0)],(.struct [(0,2),(1,3),(2,4),(3,6)]),true,true,[(.int .i64),(.int .i64),.bool,(.int .u8)]⟩:=by kernel_rfl
@[go_sem] theorem ti8:zas Tryz.prog 8=some ⟨4,24,[.fz (.i .i64 0),.fz (.i .i64 0),.fz (.b false),.fz (.i .u8 0)],(.struct [(0,2),(1,3),(2,4),(3,6)]),true,true,[(.int .i64),(.int .i64),.bool,(.int .u8)]⟩:=by kernel_rfl
@[go_sem] theorem ti9:zas Tryz.prog 9=some ⟨1,16,[.fz (.s [])],.str,false,false,[]⟩:=by kernel_rfl
@[go_sem] theorem zMU:zas Tryz.prog 10=some ⟨1,16,[.fz (.s [])],.str,false,false,[]⟩:=by kernel_rfl
@[go_sem] theorem zMV:zas Tryz.prog 11=some ⟨1,16,[.fz (.s [])],.str,false,false,[]⟩:=by kernel_rfl
@[go_sem] theorem zMW:zas Tryz.prog 12=some ⟨1,8,[.fz (.i .u64 0)],(.int .u64),false,false,[]⟩:=by kernel_rfl
@[go_sem] theorem zMX:zas Tryz.prog 13=some ⟨2,24,[.fz (.s []),.fz (.i .u64 0)],(.struct [(0,9),(1,12)]),true,false,[.str,(.int .u64)]⟩:=by kernel_rfl
@[go_sem] theorem zMY:zas Tryz.prog 14=some ⟨2,24,[.fz (.s []),.fz (.i .u64 0)],(.struct [(0,9),(1,12)]),true,false,[.str,(.int .u64)]⟩:=by kernel_rfl
@[go_sem] theorem zMZ:zas Tryz.prog 18=some ⟨1,8,[.junk],(.struct [(0,17)]),true,false,[.ptr]⟩:=by kernel_rfl
@[go_sem] theorem zM0:zas Tryz.prog 19=some ⟨1,8,[.junk],(.struct [(0,17)]),true,false,[.ptr]⟩:=by kernel_rfl
@[go_sem] theorem zM1:zas Tryz.prog 21=some ⟨1,4,[.fz (.i .i32 0)],(.int .i32),false,false,[]⟩:=by kernel_rfl
@[go_sem] theorem zM2:zas Tryz.prog 22=some ⟨1,24,[.full []],(.slice 47),false,false,[]⟩:=by kernel_rfl
@[go_sem] theorem zM3:zas Tryz.prog 23=some ⟨1,24,[.full []],(.slice 28),false,false,[]⟩:=by kernel_rfl
@[go_sem] theorem zM4:zas Tryz.prog 24=some ⟨1,24,[.full []],(.slice 9),false,false,[]⟩:=by kernel_rfl
@[go_sem] theorem zM5:zas Tryz.prog 25=some ⟨3,72,[.full [],.full [],.full []],(.struct [(0,22),(1,23),(2,24)]),true,false,[(.slice 47),(.slice 28),(.slice 9)]⟩:=by kernel_rfl
@[go_sem] theorem zM6:zas Tryz.prog 26=some ⟨3,72,[.full [],.full [],.full []],(.struct [(0,22),(1,23),(2,24)]),true,false,[(.slice 47),(.slice 28),(.slice 9)]⟩:=by kernel_rfl
@[go_sem] theorem zM7:zas Tryz.prog 27=some ⟨2,32,[.fz (.s []),.fz (.s [])],(.struct [(0,9),(1,9)]),true,true,[.str,.str]⟩:=by kernel_rfl
@[go_sem] theorem zM8:zas Tryz.prog 28=some ⟨2,32,[.fz (.s []),.fz (.s [])],(.struct [(0,9),(1,9)]),true,true,[.str,.str]⟩:=by kernel_rfl
@[go_sem] theorem zM9:zas Tryz.prog 29=some ⟨1,8,[.fz (.nilf)],.func,false,false,[]⟩:=by kernel_rfl
@[go_sem] theorem zNa:zas Tryz.prog 30=some ⟨1,24,[.full []],(.slice 37),false,false,[]⟩:=by kernel_rfl
@[go_sem] theorem zNb:zas Tryz.prog 31=some ⟨2,16,[.fz (.i .i64 0),.fz (.i .i64 0)],(.struct [(0,3),(1,3)]),true,true,[(.int .i64),(.int .i64)]⟩:=by kernel_rfl
@[go_sem] theorem zNc:zas Tryz.prog 32=some ⟨2,16,[.fz (.i .i64 0),.fz (.i .i64 0)],(.struct [(0,3),(1,3)]),true,true,[(.int .i64),(.int .i64)]⟩:=by kernel_rfl
@[go_sem] theorem zNd:zas Tryz.prog 34=some ⟨1,8,[.fz (.nilf)],.func,false,false,[]⟩:=by kernel_rfl
@[go_sem] theorem zNe:zas Tryz.prog 35=some ⟨1,8,[.fz (.nilf)],.func,false,false,[]⟩:=by kernel_rfl
@[go_sem] theorem zNf:zas Tryz.prog 36=some ⟨4,72,[.fz (.i .i64 0),.fz (.s []),.full [],.full []],(.struct [(0,3),(1,9),(2,24),(3,30)]),true,false,[(.int .i64),.str,(.slice 9),(.slice 37)]⟩:=by kernel_rfl
@[go_sem] theorem zNg:zas Tryz.prog 37=some ⟨4,72,[.fz (.i .i64 0),.fz (.s []),.full [],.full []],(.struct [(0,3),(1,9),(2,24),(3,30)]),true,false,[(.int .i64),.str,(.slice 9),(.slice 37)]⟩:=by kernel_rfl
@[go_sem] theorem zNh:zas Tryz.prog 38=some ⟨1,8,[.fz (.nilf)],.func,false,false,[]⟩:=by kernel_rfl
@[go_sem] theorem zNi:zas Tryz.prog 39=some ⟨1,8,[.fz (.nilf)],.func,false,false,[]⟩:=by kernel_rfl
@[go_sem] theorem zNj:zas Tryz.prog 41=some ⟨1,8,[.fz (.nilf)],.func,false,false,[]⟩:=by kernel_rfl
@[go_sem] theorem zNk:zas Tryz.prog 42=some ⟨1,8,[.fz (.nilf)],.func,false,false,[]⟩:=by kernel_rfl
@[go_sem] theorem zNl:zas Tryz.prog 43=some ⟨1,8,[.fz (.nilf)],.func,false,false,[]⟩:=by kernel_rfl
@[go_sem] theorem zNm:zas Tryz.prog 44=some ⟨1,8,[.fz (.nilf)],.func,false,false,[]⟩:=by kernel_rfl
@[go_sem] theorem zNn:zas Tryz.prog 45=some ⟨1,8,[.fz (.nilf)],.func,false,false,[]⟩:=by kernel_rfl
@[go_sem] theorem zNo:zas Tryz.prog 46=some ⟨5,88,[.fz (.s []),.fz (.i .i64 0),.fz (.s []),.full [],.full []],(.struct [(0,9),(1,37)]),true,false,[.str,(.struct [(0,3),(1,9),(2,24),(3,30)])]⟩:=by kernel_rfl
@[go_sem] theorem zNp:zas Tryz.prog 47=some ⟨5,88,[.fz (.s []),.fz (.i .i64 0),.fz (.s []),.full [],.full []],(.struct [(0,9),(1,37)]),true,false,[.str,(.struct [(0,3),(1,9),(2,24),(3,30)])]⟩:=by kernel_rfl
@[go_sem] theorem zNq:zas Tryz.prog 48=some ⟨1,8,[.fz (.nilf)],.func,false,false,[]⟩:=by kernel_rfl
@[go_sem] theorem zNr:zas Tryz.prog 50=some ⟨1,8,[.fz (.nilf)],.func,false,false,[]⟩:=by kernel_rfl
@[go_sem] theorem zNs:zas Tryz.prog 51=some ⟨1,8,[.fz (.nilf)],.func,false,false,[]⟩:=by kernel_rfl
@[go_sem] theorem zNt:zas Tryz.prog 52=some ⟨1,8,[.fz (.nilf)],.func,false,false,[]⟩:=by kernel_rfl
@[go_sem] theorem zNu:zas Tryz.prog 54=some ⟨1,8,[.fz (.nilf)],.func,false,false,[]⟩:=by kernel_rfl
@[go_sem] theorem zNv:zas Tryz.prog 56=some ⟨1,8,[.fz (.nilf)],.func,false,false,[]⟩:=by kernel_rfl
@[go_sem] theorem zNw:zas Tryz.prog 57=some ⟨1,8,[.fz (.nilf)],.func,false,false,[]⟩:=by kernel_rfl
@[go_sem] theorem zNx:zas Tryz.prog 58=some ⟨1,8,[.fz (.nilf)],.func,false,false,[]⟩:=by kernel_rfl
@[go_sem] theorem zNy:zas Tryz.prog 59=some ⟨1,8,[.fz (.nilf)],.func,false,false,[]⟩:=by kernel_rfl
@[go_sem] theorem zNz:zas Tryz.prog 60=some ⟨1,8,[.fz (.nilf)],.func,false,false,[]⟩:=by kernel_rfl
@[go_sem] theorem zNA:zas Tryz.prog 61=some ⟨1,24,[.full []],(.slice 65),false,false,[]⟩:=by kernel_rfl
@[go_sem] theorem zNB:zas Tryz.prog 62=some ⟨1,8,[.fz (.nilf)],.func,false,false,[]⟩:=by kernel_rfl
@[go_sem] theorem zNC:zas Tryz.prog 63=some ⟨1,24,[.full []],(.slice 3),false,false,[]⟩:=by kernel_rfl
@[go_sem] theorem zND:zas Tryz.prog 64=some ⟨3,56,[.full [],.full [],.fz (.i .i64 0)],(.struct [(0,24),(1,63),(2,3)]),true,false,[(.slice 9),(.slice 3),(.int .i64)]⟩:=by kernel_rfl
@[go_sem] theorem zNE:zas Tryz.prog 65=some ⟨3,56,[.full [],.full [],.fz (.i .i64 0)],(.struct [(0,24),(1,63),(2,3)]),true,false,[(.slice 9),(.slice 3),(.int .i64)]⟩:=by kernel_rfl
@[go_sem] theorem zNF:zas Tryz.prog 66=some ⟨1,8,[.fz (.nilf)],.func,false,false,[]⟩:=by kernel_rfl
@[go_sem] theorem zNG:zas Tryz.prog 67=some ⟨1,8,[.fz (.nilf)],.func,false,false,[]⟩:=by kernel_rfl
@[go_sem] theorem zNH:zas Tryz.prog 68=some ⟨1,8,[.fz (.nilf)],.func,false,false,[]⟩:=by kernel_rfl
@[go_sem] theorem zNI:zas Tryz.prog 69=some ⟨1,8,[.fz (.nilf)],.func,false,false,[]⟩:=by kernel_rfl
@[go_sem] theorem zNJ:zas Tryz.prog 70=some ⟨1,8,[.fz (.nilf)],.func,false,false,[]⟩:=by kernel_rfl
@[go_sem] theorem zNK:zas Tryz.prog 71=some ⟨1,8,[.fz (.nilf)],.func,false,false,[]⟩:=by kernel_rfl
@[go_sem] theorem zNL:zas Tryz.prog 72=some ⟨1,8,[.fz (.nilf)],.func,false,false,[]⟩:=by kernel_rfl
@[go_sem] theorem zNM:zas Tryz.prog 73=some ⟨1,8,[.fz (.nilf)],.func,false,false,[]⟩:=by kernel_rfl
@[go_sem] theorem zNN:zas Tryz.prog 74=some ⟨1,8,[.fz (.nilf)],.func,false,false,[]⟩:=by kernel_rfl
@[go_sem] theorem zNO:zas Tryz.prog 75=some ⟨1,8,[.fz (.nilf)],.func,false,false,[]⟩:=by kernel_rfl
@[go_sem] theorem zNP:zas Tryz.prog 76=some ⟨1,8,[.fz (.nilf)],.func,false,false,[]⟩:=by kernel_rfl
@[go_sem] theorem zNQ:zas Tryz.prog 78=some ⟨1,8,[.fz (.nilf)],.func,false,false,[]⟩:=by kernel_rfl
@[go_sem] theorem zNR:zas Tryz.prog 79=some ⟨1,24,[.full []],(.slice 111),false,false,[]⟩:=by kernel_rfl
@[go_sem] theorem zNS:zas Tryz.prog 81=some ⟨1,8,[.fz (.nilf)],.func,false,false,[]⟩:=by kernel_rfl
@[go_sem] theorem zNT:zas Tryz.prog 82=some ⟨1,8,[.fz (.nilf)],.func,false,false,[]⟩:=by kernel_rfl
@[go_sem] theorem zNU:zas Tryz.prog 83=some ⟨1,8,[.fz (.nilf)],.func,false,false,[]⟩:=by kernel_rfl
@[go_sem] theorem zNV:zas Tryz.prog 84=some ⟨1,8,[.fz (.nilf)],.func,false,false,[]⟩:=by kernel_rfl
@[go_sem] theorem zNW:zas Tryz.prog 85=some ⟨1,8,[.fz (.nilf)],.func,false,false,[]⟩:=by kernel_rfl
@[go_sem] theorem zNX:zas Tryz.prog 86=some ⟨1,24,[.full []],(.slice 4),false,false,[]⟩:=by kernel_rfl
@[go_sem] theorem zNY:zas Tryz.prog 87=some ⟨1,8,[.fz (.nilf)],.func,false,false,[]⟩:=by kernel_rfl
@[go_sem] theorem zNZ:zas Tryz.prog 88=some ⟨1,8,[.fz (.nilf)],.func,false,false,[]⟩:=by kernel_rfl
@[go_sem] theorem zN0:zas Tryz.prog 89=some ⟨1,8,[.fz (.nilf)],.func,false,false,[]⟩:=by kernel_rfl
@[go_sem] theorem zN1:zas Tryz.prog 90=some ⟨1,8,[.fz (.nilf)],.func,false,false,[]⟩:=by kernel_rfl
@[go_sem] theorem zN2:zas Tryz.prog 91=some ⟨1,8,[.fz (.nilf)],.func,false,false,[]⟩:=by kernel_rfl
@[go_sem] theorem zN3:zas Tryz.prog 92=some ⟨1,8,[.fz (.nilf)],.func,false,false,[]⟩:=by kernel_rfl
@[go_sem] theorem zN4:zas Tryz.prog 93=some ⟨1,8,[.fz (.nilf)],.func,false,false,[]⟩:=by kernel_rfl
@[go_sem] theorem zN5:zas Tryz.prog 94=some ⟨1,8,[.fz (.nilf)],.func,false,false,[]⟩:=by kernel_rfl
@[go_sem] theorem zN6:zas Tryz.prog 95=some ⟨1,8,[.fz (.nilf)],.func,false,false,[]⟩:=by kernel_rfl
@[go_sem] theorem zN7:zas Tryz.prog 96=some ⟨1,8,[.fz (.nilf)],.func,false,false,[]⟩:=by kernel_rfl
@[go_sem] theorem zN8:zas Tryz.prog 97=some ⟨1,8,[.fz (.i .u64 0)],(.int .u64),false,false,[]⟩:=by kernel_rfl
@[go_sem] theorem zN9:zas Tryz.prog 99=some ⟨1,24,[.full []],(.slice 5),false,false,[]⟩:=by kernel_rfl
@[go_sem] theorem zKZ:zas Tryz.prog 100=some ⟨2,32,[.junk,.full []],(.struct [(0,98),(1,99)]),true,false,[.ptr,(.slice 5)]⟩:=by kernel_rfl
@[go_sem] theorem zK0:zas Tryz.prog 101=some ⟨2,32,[.junk,.full []],(.struct [(0,98),(1,99)]),true,false,[.ptr,(.slice 5)]⟩:=by kernel_rfl
@[go_sem] theorem zK1:zas Tryz.prog 102=some ⟨1,8,[.fz (.nilf)],.func,false,false,[]⟩:=by kernel_rfl
@[go_sem] theorem zK2:zas Tryz.prog 103=some ⟨1,8,[.fz (.nilf)],.func,false,false,[]⟩:=by kernel_rfl
@[go_sem] theorem zK3:zas Tryz.prog 104=some ⟨5,80,[.fz (.i .i64 0),.fz (.s []),.full [],.full [],.fz (.i .i64 0)],(.struct [(0,37),(4,3)]),true,false,[(.struct [(0,3),(1,9),(2,24),(3,30)]),(.int .i64)]⟩:=by kernel_rfl
@[go_sem] theorem zK4:zas Tryz.prog 105=some ⟨5,80,[.fz (.i .i64 0),.fz (.s []),.full [],.full [],.fz (.i .i64 0)],(.struct [(0,37),(4,3)]),true,false,[(.struct [(0,3),(1,9),(2,24),(3,30)]),(.int .i64)]⟩:=by kernel_rfl
@[go_sem] theorem zK5:zas Tryz.prog 106=some ⟨1,24,[.full []],(.slice 105),false,false,[]⟩:=by kernel_rfl
@[go_sem] theorem zK6:zas Tryz.prog 107=some ⟨1,8,[.fz (.nilf)],.func,false,false,[]⟩:=by kernel_rfl
@[go_sem] theorem zK7:zas Tryz.prog 108=some ⟨1,8,[.fz (.nilf)],.func,false,false,[]⟩:=by kernel_rfl
@[go_sem] theorem zK8:zas Tryz.prog 109=some ⟨1,8,[.fz (.nilf)],.func,false,false,[]⟩:=by kernel_rfl
@[go_sem] theorem zK9:zas Tryz.prog 110=some ⟨1,8,[.fz (.nilf)],.func,false,false,[]⟩:=by kernel_rfl
@[go_sem] theorem zLa:zas Tryz.prog 111=some ⟨1,24,[.full []],(.slice 3),false,false,[]⟩:=by kernel_rfl
@[go_sem] theorem zLb:zas Tryz.prog 112=some ⟨1,8,[.fz (.nilf)],.func,false,false,[]⟩:=by kernel_rfl
@[go_sem] theorem zLc:zas Tryz.prog 113=some ⟨1,8,[.fz (.nilf)],.func,false,false,[]⟩:=by kernel_rfl
@[go_sem] theorem zLd:zas Tryz.prog 114=some ⟨1,8,[.fz (.nilf)],.func,false,false,[]⟩:=by kernel_rfl
@[go_sem] theorem zLe:zas Tryz.prog 115=some ⟨1,8,[.fz (.nilf)],.func,false,false,[]⟩:=by kernel_rfl
@[go_sem] theorem zLf:zas Tryz.prog 116=some ⟨1,8,[.fz (.nilf)],.func,false,false,[]⟩:=by kernel_rfl
@[go_sem] theorem zLg:zas Tryz.prog 117=some ⟨1,8,[.fz (.nilf)],.func,false,false,[]⟩:=by kernel_rfl
@[go_sem] theorem zLh:zas Tryz.prog 118=some ⟨1,8,[.fz (.nilf)],.func,false,false,[]⟩:=by kernel_rfl
@[go_sem] theorem zLi:zas Tryz.prog 119=some ⟨1,8,[.fz (.nilf)],.func,false,false,[]⟩:=by kernel_rfl
@[go_sem] theorem zLj:zas Tryz.prog 120=some ⟨1,8,[.fz (.nilf)],.func,false,false,[]⟩:=by kernel_rfl
@[go_sem] theorem zLk:zas Tryz.prog 121=some ⟨1,24,[.full []],(.slice 123),false,false,[]⟩:=by kernel_rfl
@[go_sem] theorem zLl:zas Tryz.prog 122=some ⟨2,32,[.fz (.s []),.fz (.s [])],(.struct [(0,9),(1,9)]),true,true,[.str,.str]⟩:=by kernel_rfl
@[go_sem] theorem zLm:zas Tryz.prog 123=some ⟨2,32,[.fz (.s []),.fz (.s [])],(.struct [(0,9),(1,9)]),true,true,[.str,.str]⟩:=by kernel_rfl
@[go_sem] theorem zLn:zas Tryz.prog 124=some ⟨1,8,[.fz (.nilf)],.func,false,false,[]⟩:=by kernel_rfl
@[go_sem] theorem zLo:zas Tryz.prog 125=some ⟨1,8,[.fz (.nilf)],.func,false,false,[]⟩:=by kernel_rfl
@[go_sem] theorem zLp:zas Tryz.prog 126=some ⟨1,8,[.fz (.i .i64 0)],(.int .i64),false,false,[]⟩:=by kernel_rfl
@[go_sem] theorem zLq:zas Tryz.prog 128=some ⟨1,8,[.fz (.nilf)],.func,false,false,[]⟩:=by kernel_rfl
@[go_sem] theorem zLr:zas Tryz.prog 129=some ⟨1,8,[.fz (.nilf)],.func,false,false,[]⟩:=by kernel_rfl
@[go_sem] theorem zLs:zas Tryz.prog 130=some ⟨1,8,[.fz (.nilf)],.func,false,false,[]⟩:=by kernel_rfl
@[go_sem] theorem zLt:zas Tryz.prog 132=some ⟨1,8,[.fz (.nilf)],.func,false,false,[]⟩:=by kernel_rfl
@[go_sem] theorem zLu:zas Tryz.prog 133=some ⟨1,8,[.fz (.nilf)],.func,false,false,[]⟩:=by kernel_rfl
@[go_sem] theorem zLv:zas Tryz.prog 134=some ⟨1,4,[.fz (.i .u32 0)],(.int .u32),false,false,[]⟩:=by kernel_rfl
@[go_sem] theorem zLw:zas Tryz.prog 135=some ⟨1,8,[.fz (.nilf)],.func,false,false,[]⟩:=by kernel_rfl
@[go_sem] theorem zLx:zas Tryz.prog 136=some ⟨1,8,[.fz (.i .u64 0)],(.int .u64),false,false,[]⟩:=by kernel_rfl
@[go_sem] theorem zLy:zas Tryz.prog 140=some ⟨1,8,[.fz (.nilf)],.func,false,false,[]⟩:=by kernel_rfl
@[go_sem] theorem zLz:zas Tryz.prog 141=some ⟨1,8,[.fz (.nilf)],.func,false,false,[]⟩:=by kernel_rfl
@[go_sem] theorem zLA:zas Tryz.prog 142=some ⟨1,8,[.fz (.nilf)],.func,false,false,[]⟩:=by kernel_rfl
@[go_sem] theorem zLB:zas Tryz.prog 144=some ⟨1,8,[.fz (.nilf)],.func,false,false,[]⟩:=by kernel_rfl
@[go_sem] theorem zLC:zas Tryz.prog 145=some ⟨1,8,[.fz (.nilf)],.func,false,false,[]⟩:=by kernel_rfl
@[go_sem] theorem zLD:zas Tryz.prog 146=some ⟨1,8,[.fz (.nilf)],.func,false,false,[]⟩:=by kernel_rfl
@[go_sem] theorem zLE:zas Tryz.prog 148=some ⟨1,8,[.fz (.nilf)],.func,false,false,[]⟩:=by kernel_rfl
@[go_sem] theorem zLF:zas Tryz.prog 149=some ⟨1,8,[.fz (.nilf)],.func,false,false,[]⟩:=by kernel_rfl
@[go_sem] theorem zLG:zas Tryz.prog 150=some ⟨1,8,[.fz (.i .u64 0)],(.int .u64),false,false,[]⟩:=by kernel_rfl
@[go_sem] theorem zLH:zas Tryz.prog 151=some ⟨1,8,[.fz (.nilf)],.func,false,false,[]⟩:=by kernel_rfl
@[go_sem] theorem zLI:zas Tryz.prog 152=some ⟨1,8,[.fz (.nilf)],.func,false,false,[]⟩:=by kernel_rfl
@[go_sem] theorem zLJ:zas Tryz.prog 153=some ⟨1,8,[.fz (.nilf)],.func,false,false,[]⟩:=by kernel_rfl
@[go_sem] theorem zLK:zas Tryz.prog 154=some ⟨1,8,[.fz (.nilf)],.func,false,false,[]⟩:=by kernel_rfl
@[go_sem] theorem zLL:zas Tryz.prog 155=some ⟨1,8,[.fz (.nilf)],.func,false,false,[]⟩:=by kernel_rfl
@[go_sem] theorem zLM:zas Tryz.prog 156=some ⟨1,8,[.fz (.nilf)],.func,false,false,[]⟩:=by kernel_rfl
@[go_sem] theorem zLN:zas Tryz.prog 157=some ⟨1,8,[.fz (.nilf)],.func,false,false,[]⟩:=by kernel_rfl
@[go_sem] theorem zLO:zas Tryz.prog 158=some ⟨1,8,[.fz (.nilf)],.func,false,false,[]⟩:=by kernel_rfl
@[go_sem] theorem zLP:zas Tryz.prog 159=some ⟨1,8,[.fz (.nilf)],.func,false,false,[]⟩:=by kernel_rfl
@[go_sem] theorem zLQ:zas Tryz.prog 160=some ⟨1,8,[.fz (.nilf)],.func,false,false,[]⟩:=by kernel_rfl
@[go_sem] theorem zLR:zas Tryz.prog 162=some ⟨1,8,[.fz (.nilf)],.func,false,false,[]⟩:=by kernel_rfl
@[go_sem] theorem zLS:zas Tryz.prog 164=some ⟨1,8,[.fz (.nilf)],.func,false,false,[]⟩:=by kernel_rfl
@[go_sem] theorem zLT:zas Tryz.prog 166=some ⟨1,8,[.fz (.nilf)],.func,false,false,[]⟩:=by kernel_rfl
@[go_sem] theorem zLU:zas Tryz.prog 168=some ⟨1,8,[.fz (.nilf)],.func,false,false,[]⟩:=by kernel_rfl
@[go_sem] theorem zLV:zas Tryz.prog 169=some ⟨1,8,[.fz (.nilf)],.func,false,false,[]⟩:=by kernel_rfl
@[go_sem] theorem zLW:zas Tryz.prog 170=some ⟨1,8,[.fz (.nilf)],.func,false,false,[]⟩:=by kernel_rfl
@[go_sem] theorem zLX:zas Tryz.prog 171=some ⟨1,8,[.fz (.nilf)],.func,false,false,[]⟩:=by kernel_rfl
@[go_sem] theorem zLY:zas Tryz.prog 174=some ⟨1,8,[.fz (.nilf)],.func,false,false,[]⟩:=by kernel_rfl
@[go_sem] theorem zLZ:zas Tryz.prog 175=some ⟨1,8,[.fz (.nilf)],.func,false,false,[]⟩:=by kernel_rfl
@[go_sem] theorem zL0:zas Tryz.prog 176=some ⟨1,8,[.fz (.nilf)],.func,false,false,[]⟩:=by kernel_rfl
@[go_sem] theorem zL1:zas Tryz.prog 179=some ⟨4,40,[.junk,.junk,.junk,.fz (.s [])],(.struct [(0,17),(1,17),(2,17),(3,9)]),true,false,[.ptr,.ptr,.ptr,.str]⟩:=by kernel_rfl
@[go_sem] theorem zL2:zas Tryz.prog 180=some ⟨4,40,[.junk,.junk,.junk,.fz (.s [])],(.struct [(0,17),(1,17),(2,17),(3,9)]),true,false,[.ptr,.ptr,.ptr,.str]⟩:=by kernel_rfl
@[go_sem] theorem zL3:zas Tryz.prog 182=some ⟨0,0,[],(.struct [(0,181)]),true,false,[.other]⟩:=by kernel_rfl
@[go_sem] theorem zL4:zas Tryz.prog 183=some ⟨0,0,[],(.struct [(0,181)]),true,false,[.other]⟩:=by kernel_rfl
@[go_sem] theorem zL5:zas Tryz.prog 184=some ⟨1,8,[.fz (.nilf)],.func,false,false,[]⟩:=by kernel_rfl
@[go_sem] theorem zL6:zas Tryz.prog 185=some ⟨1,1,[.fz (.i .u8 0)],(.int .u8),false,false,[]⟩:=by kernel_rfl
@[go_sem] theorem zL7:zas Tryz.prog 186=some ⟨1,1,[.fz (.i .u8 0)],(.int .u8),false,false,[]⟩:=by kernel_rfl
@[go_sem] theorem zL8:zas Tryz.prog 187=some ⟨1,8,[.fz (.nilf)],.func,false,false,[]⟩:=by kernel_rfl
@[go_sem] theorem zL9:zas Tryz.prog 188=some ⟨1,4,[.fz (.i .i32 0)],(.int .i32),false,false,[]⟩:=by kernel_rfl
@[go_sem] theorem zMa:zas Tryz.prog 189=some ⟨1,4,[.fz (.i .i32 0)],(.int .i32),false,false,[]⟩:=by kernel_rfl
@[go_sem] theorem zMb:zas Tryz.prog 190=some ⟨11,48,[.fz (.i .u64 0),.fz (.i .u64 0),.fz (.i .u32 0),.fz (.i .u8 0),.fz (.i .u8 0),.fz (.i .u8 0),.fz (.i .u8 0),.fz (.nilf),.junk,.fz (.i .i32 0),.fz (.i .i32 0)],(.struct [(0,12),(1,12),(2,134),(3,185),(4,5),(5,5),(6,186),(7,187),(8,143),(9,188),(10,189)]),true,false,[(.int .u64),(.int .u64),(.int .u32),(.int .u8),(.int .u8),(.int .u8),(.int .u8),.func,.ptr,(.int .i32),(.int .i32)]⟩:=by kernel_rfl
@[go_sem] theorem zMc:zas Tryz.prog 191=some ⟨11,48,[.fz (.i .u64 0),.fz (.i .u64 0),.fz (.i .u32 0),.fz (.i .u8 0),.fz (.i .u8 0),.fz (.i .u8 0),.fz (.i .u8 0),.fz (.nilf),.junk,.fz (.i .i32 0),.fz (.i .i32 0)],(.struct [(0,12),(1,12),(2,134),(3,185),(4,5),(5,5),(6,186),(7,187),(8,143),(9,188),(10,189)]),true,false,[(.int .u64),(.int .u64),(.int .u32),(.int .u8),(.int .u8),(.int .u8),(.int .u8),.func,.ptr,(.int .i32),(.int .i32)]⟩:=by kernel_rfl
theorem ok4:zap Tryz.prog 4:=Tryz.call4
theorem ok7:zap Tryz.prog 7:=Tryz.call7
theorem ok8:zap Tryz.prog 8:=Tryz.call8
theorem ok9:zap Tryz.prog 9:=Tryz.call9
theorem zEs:zap Tryz.prog 10:=Tryz.call10
theorem zH8:zap Tryz.prog 11:=Tryz.call11
theorem zEt:zap Tryz.prog 12:=Tryz.call12
theorem zH9:zap Tryz.prog 13:=Tryz.call13
theorem zIa:zap Tryz.prog 14:=Tryz.call14
theorem zIb:zap Tryz.prog 16:=Tryz.call16
theorem zIc:zap Tryz.prog 18:=Tryz.call18
theorem zId:zap Tryz.prog 19:=Tryz.call19
theorem zIe:zap Tryz.prog 22:=Tryz.call22
theorem zIf:zap Tryz.prog 23:=Tryz.call23
theorem zIg:zap Tryz.prog 24:=Tryz.call24
theorem zIh:zap Tryz.prog 25:=Tryz.call25
theorem zIi:zap Tryz.prog 26:=Tryz.call26
theorem zGx:zap Tryz.prog 27:=Tryz.call27
theorem zKv:zap Tryz.prog 28:=Tryz.call28
theorem zEu:zap Tryz.prog 29:=Tryz.call29
theorem zIj:zap Tryz.prog 30:=Tryz.call30
theorem zKw:zap Tryz.prog 31:=Tryz.call31
theorem zIk:zap Tryz.prog 32:=Tryz.call32
theorem zIl:zap Tryz.prog 33:=Tryz.call33
theorem zEv:zap Tryz.prog 34:=Tryz.call34
theorem zGy:zap Tryz.prog 35:=Tryz.call35
theorem zIm:zap Tryz.prog 36:=Tryz.call36
theorem zIn:zap Tryz.prog 37:=Tryz.call37
theorem zIo:zap Tryz.prog 38:=Tryz.call38
theorem zIp:zap Tryz.prog 39:=Tryz.call39
theorem zIq:zap Tryz.prog 40:=Tryz.call40
theorem zIr:zap Tryz.prog 41:=Tryz.call41
theorem zGz:zap Tryz.prog 42:=Tryz.call42
theorem zIs:zap Tryz.prog 43:=Tryz.call43
theorem zGA:zap Tryz.prog 44:=Tryz.call44
theorem zAS:zap Tryz.prog 45:=Tryz.call45
theorem zu9:zap Tryz.prog 46:=Tryz.call46
theorem zIt:zap Tryz.prog 47:=Tryz.call47
theorem zIu:zap Tryz.prog 48:=Tryz.call48
theorem zGB:zap Tryz.prog 49:=Tryz.call49
theorem zIv:zap Tryz.prog 50:=Tryz.call50
theorem zGC:zap Tryz.prog 51:=Tryz.call51
theorem zKx:zap Tryz.prog 52:=Tryz.call52
theorem zIw:zap Tryz.prog 53:=Tryz.call53
theorem zIx:zap Tryz.prog 54:=Tryz.call54
theorem zIy:zap Tryz.prog 55:=Tryz.call55
theorem zIz:zap Tryz.prog 56:=Tryz.call56
theorem zIA:zap Tryz.prog 57:=Tryz.call57
theorem zIB:zap Tryz.prog 58:=Tryz.call58
theorem zIC:zap Tryz.prog 59:=Tryz.call59
theorem zID:zap Tryz.prog 60:=Tryz.call60
theorem zva:zap Tryz.prog 63:=Tryz.call63
theorem zKy:zap Tryz.prog 64:=Tryz.call64
theorem zIE:zap Tryz.prog 65:=Tryz.call65
theorem zIF:zap Tryz.prog 66:=Tryz.call66
theorem zIG:zap Tryz.prog 67:=Tryz.call67
theorem zKz:zap Tryz.prog 68:=Tryz.call68
theorem zIH:zap Tryz.prog 69:=Tryz.call69
theorem zII:zap Tryz.prog 70:=Tryz.call70
theorem zIJ:zap Tryz.prog 71:=Tryz.call71
theorem zIK:zap Tryz.prog 72:=Tryz.call72
theorem zIL:zap Tryz.prog 73:=Tryz.call73
theorem zGD:zap Tryz.prog 74:=Tryz.call74
theorem zEw:zap Tryz.prog 75:=Tryz.call75
theorem zIM:zap Tryz.prog 76:=Tryz.call76
theorem zIN:zap Tryz.prog 77:=Tryz.call77
theorem zIO:zap Tryz.prog 78:=Tryz.call78
theorem zIP:zap Tryz.prog 79:=Tryz.call79
theorem zIQ:zap Tryz.prog 81:=Tryz.call81
theorem zIR:zap Tryz.prog 82:=Tryz.call82
theorem zIS:zap Tryz.prog 83:=Tryz.call83
theorem zKA:zap Tryz.prog 84:=Tryz.call84
theorem zKB:zap Tryz.prog 85:=Tryz.call85
theorem zxM:zap Tryz.prog 96:=Tryz.call96
theorem zIT:zap Tryz.prog 97:=Tryz.call97
theorem zzl:zap Tryz.prog 98:=Tryz.call98
theorem zIU:zap Tryz.prog 99:=Tryz.call99
theorem zwx:zap Tryz.prog 100:=Tryz.call100
theorem zGw:zap Tryz.prog 101:=Tryz.call101
theorem zCM:zap Tryz.prog 102:=Tryz.call102
theorem zCN:zap Tryz.prog 103:=Tryz.call103
theorem zCO:zap Tryz.prog 132:=Tryz.call132
end Go.Proofs.YtmconmiemdinkaaGreatDoor
