import Derived.Test.YtkkffhphodngkaaDoorProg
import Derived.Test.YtkkffhphodngkaaDoorA2
import Derived.KernelRfl
namespace Go.Proofs.YtkkffhphodngkaaDoor
open Go Go.Abs Go.Proofs
theorem hm:Tryd.prog.follows .mixedOrders=true:=by kernel_rfl
@[go_sem] theorem ti1:zao Tryd.prog 1=some ⟨1,8,[.fz (.nilf)],.func,false,false,[]⟩:=by kernel_rfl
@[go_sem] theorem ti2:zao Tryd.prog 2=some ⟨1,8,[.fz (.i .i64 0)],(.int .i64),false,false,[]⟩:=by kernel_rfl
@[go_sem] theorem ti3:zao Tryd.prog 3=some ⟨1,8,[.fz (.i .i64 0)],(.int .i64),false,false,[]⟩:=by kernel_rfl
@[go_sem] theorem ti4:zao Tryd.prog 4=some ⟨1,1,[.fz (.b false)],.bool,false,false,[]⟩:=by kernel_rfl
@[go_sem] theorem ti5:zao Tryd.prog 5=some ⟨1,1,[.fz (.i .u8 0)],(.int .u8),false,false,[]⟩:=by kernel_rfl
@[go_sem] theorem ti6:zao Tryd.prog 6=some ⟨1,1,[.fz (.i .u8 0)],(.int .u8),false,false,[]⟩:=by kernel_rfl
@[go_sem] theorem ti7:zao Tryd.prog 7=some ⟨4,24,[.fz (.i .i64 0),.fz (.i .i64 0),.fz (.b false),.fz (.i .u8 0)],(.struct [(0,2),(1,3),(2,4),(3,6)]),true,true,[(.int .i64),(.int .i64),.bool,(.int .u8)]⟩:=by kernel_rfl
@[go_sem] theorem ti8:zao Tryd.prog 8=some ⟨4,24,[.fz (.i .i64 0),.fz (.i .i64 0),.fz (.b false),.fz (.i .u8 0)],(.struct [(0,2),(1,3),(2,4),(3,6)]),true,true,[(.int .i64),(.int .i64),.bool,(.int .u8)]⟩:=by kernel_rfl
@[go_sem] theorem ti9:zao Tryd.prog 9=some ⟨1,16,[.fz (.s [])],.str,false,false,[]⟩:=by kernel_rfl
@[go_sem] theorem zJ1:zao Tryd.prog 10=some ⟨1,16,[.fz (.s [])],.str,false,false,[]⟩:=by kernel_rfl
@[go_sem] theorem zJ2:zao Tryd.prog 11=some ⟨1,16,[.fz (.s [])],.str,false,false,[]⟩:=by kernel_rfl
@[go_sem] theorem zJ3:zao Tryd.prog 12=some ⟨1,8,[.fz (.i .u64 0)],(.int .u64),false,false,[]⟩:=by kernel_rfl
@[go_sem] theorem zJ4:zao Tryd.prog 13=some ⟨2,24,[.fz (.s []),.fz (.i .u64 0)],(.struct [(0,9),(1,12)]),true,false,[.str,(.int .u64)]⟩:=by kernel_rfl
@[go_sem] theorem zJ5:zao Tryd.prog 14=some ⟨2,24,[.fz (.s []),.fz (.i .u64 0)],(.struct [(0,9),(1,12)]),true,false,[.str,(.int .u64)]⟩:=by kernel_rfl
@[go_sem] theorem zJ6:zao Tryd.prog 18=some ⟨1,8,[.junk],(.struct [(0,17)]),true,false,[.ptr]⟩:=by kernel_rfl
@[go_sem] theorem zJ7:zao Tryd.prog 19=some ⟨1,8,[.junk],(.struct [(0,17)]),true,false,[.ptr]⟩:=by kernel_rfl
@[go_sem] theorem zJ8:zao Tryd.prog 21=some ⟨1,4,[.fz (.i .i32 0)],(.int .i32),false,false,[]⟩:=by kernel_rfl
@[go_sem] theorem zJ9:zao Tryd.prog 22=some ⟨1,24,[.full []],(.slice 29),false,false,[]⟩:=by kernel_rfl
@[go_sem] theorem zKa:zao Tryd.prog 23=some ⟨2,16,[.fz (.i .i64 0),.fz (.i .i64 0)],(.struct [(0,3),(1,3)]),true,true,[(.int .i64),(.int .i64)]⟩:=by kernel_rfl
@[go_sem] theorem zKb:zao Tryd.prog 24=some ⟨2,16,[.fz (.i .i64 0),.fz (.i .i64 0)],(.struct [(0,3),(1,3)]),true,true,[(.int .i64),(.int .i64)]⟩:=by kernel_rfl
@[go_sem] theorem zKc:zao Tryd.prog 26=some ⟨1,8,[.fz (.nilf)],.func,false,false,[]⟩:=by kernel_rfl
@[go_sem] theorem zKd:zao Tryd.prog 27=some ⟨1,24,[.full []],(.slice 9),false,false,[]⟩:=by kernel_rfl
@[go_sem] theorem zKe:zao Tryd.prog 28=some ⟨4,72,[.fz (.i .i64 0),.fz (.s []),.full [],.full []],(.struct [(0,3),(1,9),(2,27),(3,22)]),true,false,[(.int .i64),.str,(.slice 9),(.slice 29)]⟩:=by kernel_rfl
@[go_sem] theorem zKf:zao Tryd.prog 29=some ⟨4,72,[.fz (.i .i64 0),.fz (.s []),.full [],.full []],(.struct [(0,3),(1,9),(2,27),(3,22)]),true,false,[(.int .i64),.str,(.slice 9),(.slice 29)]⟩:=by kernel_rfl
@[go_sem] theorem zKg:zao Tryd.prog 30=some ⟨1,8,[.fz (.nilf)],.func,false,false,[]⟩:=by kernel_rfl
@[go_sem] theorem zKh:zao Tryd.prog 31=some ⟨1,8,[.fz (.nilf)],.func,false,false,[]⟩:=by kernel_rfl
@[go_sem] theorem zKi:zao Tryd.prog 32=some ⟨1,24,[.full []],(.slice 42),false,false,[]⟩:=by kernel_rfl
@[go_sem] theorem zKj:zao Tryd.prog 34=some ⟨1,8,[.fz (.nilf)],.func,false,false,[]⟩:=by kernel_rfl
@[go_sem] theorem zKk:zao Tryd.prog 35=some ⟨1,8,[.fz (.nilf)],.func,false,false,[]⟩:=by kernel_rfl
@[go_sem] theorem zKl:zao Tryd.prog 36=some ⟨1,8,[.fz (.nilf)],.func,false,false,[]⟩:=by kernel_rfl
@[go_sem] theorem zKm:zao Tryd.prog 37=some ⟨1,8,[.fz (.nilf)],.func,false,false,[]⟩:=by kernel_rfl
@[go_sem] theorem zKn:zao Tryd.prog 38=some ⟨1,8,[.fz (.nilf)],.func,false,false,[]⟩:=by kernel_rfl
@[go_sem] theorem zKo:zao Tryd.prog 39=some ⟨1,24,[.full []],(.slice 59),false,false,[]⟩:=by kernel_rfl
@[go_sem] theorem zKp:zao Tryd.prog 40=some ⟨1,24,[.full []],(.slice 62),false,false,[]⟩:=by kernel_rfl
@[go_sem] theorem zKq:zao Tryd.prog 41=some ⟨3,56,[.fz (.i .i64 0),.full [],.full []],(.struct [(0,3),(1,39),(2,40)]),true,false,[(.int .i64),(.slice 59),(.slice 62)]⟩:=by kernel_rfl
@[go_sem] theorem zKr:zao Tryd.prog 42=some ⟨3,56,[.fz (.i .i64 0),.full [],.full []],(.struct [(0,3),(1,39),(2,40)]),true,false,[(.int .i64),(.slice 59),(.slice 62)]⟩:=by kernel_rfl
@[go_sem] theorem zKs:zao Tryd.prog 44=some ⟨1,8,[.fz (.nilf)],.func,false,false,[]⟩:=by kernel_rfl
@[go_sem] theorem zKt:zao Tryd.prog 45=some ⟨1,8,[.fz (.nilf)],.func,false,false,[]⟩:=by kernel_rfl
@[go_sem] theorem zKu:zao Tryd.prog 47=some ⟨1,8,[.fz (.nilf)],.func,false,false,[]⟩:=by kernel_rfl
@[go_sem] theorem zKv:zao Tryd.prog 48=some ⟨1,8,[.fz (.nilf)],.func,false,false,[]⟩:=by kernel_rfl
@[go_sem] theorem zKw:zao Tryd.prog 49=some ⟨1,8,[.fz (.nilf)],.func,false,false,[]⟩:=by kernel_rfl
@[go_sem] theorem zKx:zao Tryd.prog 50=some ⟨1,8,[.fz (.nilf)],.func,false,false,[]⟩:=by kernel_rfl
@[go_sem] theorem zKy:zao Tryd.prog 51=some ⟨1,8,[.fz (.nilf)],.func,false,false,[]⟩:=by kernel_rfl
@[go_sem] theorem zKz:zao Tryd.prog 52=some ⟨1,24,[.full []],(.slice 57),false,false,[]⟩:=by kernel_rfl
@[go_sem] theorem zKA:zao Tryd.prog 53=some ⟨1,8,[.fz (.nilf)],.func,false,false,[]⟩:=by kernel_rfl
@[go_sem] theorem zKB:zao Tryd.prog 54=some ⟨1,8,[.fz (.nilf)],.func,false,false,[]⟩:=by kernel_rfl
@[go_sem] theorem zKC:zao Tryd.prog 55=some ⟨1,24,[.full []],(.slice 3),false,false,[]⟩:=by kernel_rfl
@[go_sem] theorem zKD:zao Tryd.prog 56=some ⟨2,24,[.fz (.s []),.fz (.i .i64 0)],(.struct [(0,9),(1,3)]),true,true,[.str,(.int .i64)]⟩:=by kernel_rfl
@[go_sem] theorem zKE:zao Tryd.prog 57=some ⟨2,24,[.fz (.s []),.fz (.i .i64 0)],(.struct [(0,9),(1,3)]),true,true,[.str,(.int .i64)]⟩:=by kernel_rfl
@[go_sem] theorem zKF:zao Tryd.prog 58=some ⟨2,24,[.fz (.s []),.fz (.i .i64 0)],(.struct [(0,9),(1,3)]),true,true,[.str,(.int .i64)]⟩:=by kernel_rfl
@[go_sem] theorem zKG:zao Tryd.prog 59=some ⟨2,24,[.fz (.s []),.fz (.i .i64 0)],(.struct [(0,9),(1,3)]),true,true,[.str,(.int .i64)]⟩:=by kernel_rfl
@[go_sem] theorem zKH:zao Tryd.prog 60=some ⟨1,24,[.full []],(.slice 55),false,false,[]⟩:=by kernel_rfl
@[go_sem] theorem zKI:zao Tryd.prog 61=some ⟨3,48,[.fz (.s []),.fz (.i .i64 0),.full []],(.struct [(0,9),(1,3),(2,60)]),true,false,[.str,(.int .i64),(.slice 55)]⟩:=by kernel_rfl
@[go_sem] theorem zKJ:zao Tryd.prog 62=some ⟨3,48,[.fz (.s []),.fz (.i .i64 0),.full []],(.struct [(0,9),(1,3),(2,60)]),true,false,[.str,(.int .i64),(.slice 55)]⟩:=by kernel_rfl
@[go_sem] theorem zKK:zao Tryd.prog 63=some ⟨1,8,[.fz (.nilf)],.func,false,false,[]⟩:=by kernel_rfl
@[go_sem] theorem zKL:zao Tryd.prog 64=some ⟨1,8,[.fz (.nilf)],.func,false,false,[]⟩:=by kernel_rfl
@[go_sem] theorem zKM:zao Tryd.prog 65=some ⟨1,8,[.fz (.nilf)],.func,false,false,[]⟩:=by kernel_rfl
@[go_sem] theorem zKN:zao Tryd.prog 66=some ⟨1,8,[.fz (.nilf)],.func,false,false,[]⟩:=by kernel_rfl
@[go_sem] theorem zKO:zao Tryd.prog 67=some ⟨1,8,[.fz (.nilf)],.func,false,false,[]⟩:=by kernel_rfl
@[go_sem] theorem zKP:zao Tryd.prog 68=some ⟨1,8,[.fz (.nilf)],.func,false,false,[]⟩:=by kernel_rfl
@[go_sem] theorem zKQ:zao Tryd.prog 70=some ⟨1,8,[.fz (.nilf)],.func,false,false,[]⟩:=by kernel_rfl
@[go_sem] theorem zKR:zao Tryd.prog 71=some ⟨1,8,[.fz (.nilf)],.func,false,false,[]⟩:=by kernel_rfl
@[go_sem] theorem zKS:zao Tryd.prog 72=some ⟨1,8,[.fz (.nilf)],.func,false,false,[]⟩:=by kernel_rfl
@[go_sem] theorem zKT:zao Tryd.prog 73=some ⟨1,8,[.fz (.nilf)],.func,false,false,[]⟩:=by kernel_rfl
@[go_sem] theorem zKU:zao Tryd.prog 74=some ⟨1,8,[.fz (.nilf)],.func,false,false,[]⟩:=by kernel_rfl
@[go_sem] theorem zKV:zao Tryd.prog 75=some ⟨1,8,[.fz (.nilf)],.func,false,false,[]⟩:=by kernel_rfl
@[go_sem] theorem zKW:zao Tryd.prog 76=some ⟨1,8,[.fz (.nilf)],.func,false,false,[]⟩:=by kernel_rfl
@[go_sem] theorem zKX:zao Tryd.prog 77=some ⟨1,24,[.full []],(.slice 4),false,false,[]⟩:=by kernel_rfl
@[go_sem] theorem zKY:zao Tryd.prog 78=some ⟨1,8,[.fz (.nilf)],.func,false,false,[]⟩:=by kernel_rfl
@[go_sem] theorem zKZ:zao Tryd.prog 79=some ⟨1,8,[.fz (.nilf)],.func,false,false,[]⟩:=by kernel_rfl
@[go_sem] theorem zK0:zao Tryd.prog 80=some ⟨1,8,[.fz (.nilf)],.func,false,false,[]⟩:=by kernel_rfl
@[go_sem] theorem zK1:zao Tryd.prog 81=some ⟨1,8,[.fz (.nilf)],.func,false,false,[]⟩:=by kernel_rfl
@[go_sem] theorem zK2:zao Tryd.prog 82=some ⟨1,8,[.fz (.nilf)],.func,false,false,[]⟩:=by kernel_rfl
@[go_sem] theorem zK3:zao Tryd.prog 83=some ⟨1,8,[.fz (.nilf)],.func,false,false,[]⟩:=by kernel_rfl
@[go_sem] theorem zK4:zao Tryd.prog 84=some ⟨1,8,[.fz (.nilf)],.func,false,false,[]⟩:=by kernel_rfl
@[go_sem] theorem zK5:zao Tryd.prog 85=some ⟨1,8,[.fz (.nilf)],.func,false,false,[]⟩:=by kernel_rfl
@[go_sem] theorem zK6:zao Tryd.prog 87=some ⟨1,8,[.fz (.nilf)],.func,false,false,[]⟩:=by kernel_rfl
@[go_sem] theorem zK7:zao Tryd.prog 88=some ⟨1,24,[.full []],(.slice 89),false,false,[]⟩:=by kernel_rfl
@[go_sem] theorem zK8:zao Tryd.prog 89=some ⟨2,24,[.fz (.s []),.fz (.i .i64 0)],(.struct [(0,9),(1,3)]),true,true,[.str,(.int .i64)]⟩:=by kernel_rfl
@[go_sem] theorem zK9:zao Tryd.prog 90=some ⟨1,8,[.fz (.nilf)],.func,false,false,[]⟩:=by kernel_rfl
@[go_sem] theorem zLa:zao Tryd.prog 91=some ⟨1,8,[.fz (.nilf)],.func,false,false,[]⟩:=by kernel_rfl
@[go_sem] theorem zLb:zao Tryd.prog 92=some ⟨1,8,[.fz (.nilf)],.func,false,false,[]⟩:=by kernel_rfl
@[go_sem] theorem zLc:zao Tryd.prog 93=some ⟨1,8,[.fz (.nilf)],.func,false,false,[]⟩:=by kernel_rfl
@[go_sem] theorem zLd:zao Tryd.prog 94=some ⟨1,8,[.fz (.nilf)],.func,false,false,[]⟩:=by kernel_rfl
@[go_sem] theorem zLe:zao Tryd.prog 95=some ⟨1,8,[.fz (.nilf)],.func,false,false,[]⟩:=by kernel_rfl
@[go_sem] theorem zLf:zao Tryd.prog 96=some ⟨1,8,[.fz (.nilf)],.func,false,false,[]⟩:=by kernel_rfl
@[go_sem] theorem zLg:zao Tryd.prog 97=some ⟨1,8,[.fz (.nilf)],.func,false,false,[]⟩:=by kernel_rfl
@[go_sem] theorem zLh:zao Tryd.prog 98=some ⟨1,8,[.fz (.nilf)],.func,false,false,[]⟩:=by kernel_rfl
@[go_sem] theorem zLi:zao Tryd.prog 99=some ⟨1,8,[.fz (.nilf)],.func,false,false,[]⟩:=by kernel_rfl
@[go_sem] theorem zIl:zao Tryd.prog 100=some ⟨1,8,[.fz (.i .u64 0)],(.int .u64),false,false,[]⟩:=by kernel_rfl
@[go_sem] theorem zIm:zao Tryd.prog 101=some ⟨5,80,[.fz (.i .i64 0),.fz (.s []),.full [],.full [],.fz (.i .i64 0)],(.struct [(0,29),(4,3)]),true,false,[(.struct [(0,3),(1,9),(2,27),(3,22)]),(.int .i64)]⟩:=by kernel_rfl
@[go_sem] theorem zIn:zao Tryd.prog 102=some ⟨5,80,[.fz (.i .i64 0),.fz (.s []),.full [],.full [],.fz (.i .i64 0)],(.struct [(0,29),(4,3)]),true,false,[(.struct [(0,3),(1,9),(2,27),(3,22)]),(.int .i64)]⟩:=by kernel_rfl
@[go_sem] theorem zIo:zao Tryd.prog 103=some ⟨1,24,[.full []],(.slice 102),false,false,[]⟩:=by kernel_rfl
@[go_sem] theorem zIp:zao Tryd.prog 104=some ⟨1,8,[.fz (.nilf)],.func,false,false,[]⟩:=by kernel_rfl
@[go_sem] theorem zIq:zao Tryd.prog 105=some ⟨1,8,[.fz (.nilf)],.func,false,false,[]⟩:=by kernel_rfl
@[go_sem] theorem zIr:zao Tryd.prog 106=some ⟨1,8,[.fz (.nilf)],.func,false,false,[]⟩:=by kernel_rfl
@[go_sem] theorem zIs:zao Tryd.prog 107=some ⟨1,8,[.fz (.nilf)],.func,false,false,[]⟩:=by kernel_rfl
@[go_sem] theorem zIt:zao Tryd.prog 108=some ⟨1,8,[.fz (.nilf)],.func,false,false,[]⟩:=by kernel_rfl
@[go_sem] theorem zIu:zao Tryd.prog 109=some ⟨1,8,[.fz (.nilf)],.func,false,false,[]⟩:=by kernel_rfl
@[go_sem] theorem zIv:zao Tryd.prog 110=some ⟨1,8,[.fz (.nilf)],.func,false,false,[]⟩:=by kernel_rfl
@[go_sem] theorem zIw:zao Tryd.prog 111=some ⟨1,8,[.fz (.nilf)],.func,false,false,[]⟩:=by kernel_rfl
@[go_sem] theorem zIx:zao Tryd.prog 112=some ⟨1,8,[.fz (.nilf)],.func,false,false,[]⟩:=by kernel_rfl
@[go_sem] theorem zIy:zao Tryd.prog 113=some ⟨1,8,[.fz (.nilf)],.func,false,false,[]⟩:=by kernel_rfl
@[go_sem] theorem zIz:zao Tryd.prog 114=some ⟨1,8,[.fz (.nilf)],.func,false,false,[]⟩:=by kernel_rfl
@[go_sem] theorem zIA:zao Tryd.prog 115=some ⟨1,8,[.fz (.nilf)],.func,false,false,[]⟩:=by kernel_rfl
@[go_sem] theorem zIB:zao Tryd.prog 116=some ⟨1,8,[.fz (.nilf)],.func,false,false,[]⟩:=by kernel_rfl
@[go_sem] theorem zIC:zao Tryd.prog 117=some ⟨1,8,[.fz (.nilf)],.func,false,false,[]⟩:=by kernel_rfl
@[go_sem] theorem zID:zao Tryd.prog 118=some ⟨1,8,[.fz (.nilf)],.func,false,false,[]⟩:=by kernel_rfl
@[go_sem] theorem zIE:zao Tryd.prog 119=some ⟨1,8,[.fz (.nilf)],.func,false,false,[]⟩:=by kernel_rfl
@[go_sem] theorem zIF:zao Tryd.prog 120=some ⟨1,8,[.fz (.nilf)],.func,false,false,[]⟩:=by kernel_rfl
@[go_sem] theorem zIG:zao Tryd.prog 121=some ⟨1,8,[.fz (.nilf)],.func,false,false,[]⟩:=by kernel_rfl
@[go_sem] theorem zIH:zao Tryd.prog 122=some ⟨1,8,[.fz (.i .i64 0)],(.int .i64),false,false,[]⟩:=by kernel_rfl
@[go_sem] theorem zII:zao Tryd.prog 124=some ⟨1,8,[.fz (.nilf)],.func,false,false,[]⟩:=by kernel_rfl
@[go_sem] theorem zIJ:zao Tryd.prog 125=some ⟨1,8,[.fz (.nilf)],.func,false,false,[]⟩:=by kernel_rfl
@[go_sem] theorem zIK:zao Tryd.prog 126=some ⟨1,8,[.fz (.nilf)],.func,false,false,[]⟩:=by kernel_rfl
@[go_sem] theorem zIL:zao Tryd.prog 127=some ⟨1,8,[.fz (.nilf)],.func,false,false,[]⟩:=by kernel_rfl
@[go_sem] theorem zIM:zao Tryd.prog 128=some ⟨1,8,[.fz (.nilf)],.func,false,false,[]⟩:=by kernel_rfl
@[go_sem] theorem zIN:zao Tryd.prog 129=some ⟨1,8,[.fz (.nilf)],.func,false,false,[]⟩:=by kernel_rfl
@[go_sem] theorem zIO:zao Tryd.prog 130=some ⟨1,4,[.fz (.i .u32 0)],(.int .u32),false,false,[]⟩:=by kernel_rfl
@[go_sem] theorem zIP:zao Tryd.prog 131=some ⟨1,8,[.fz (.nilf)],.func,false,false,[]⟩:=by kernel_rfl
@[go_sem] theorem zIQ:zao Tryd.prog 132=some ⟨1,8,[.fz (.i .u64 0)],(.int .u64),false,false,[]⟩:=by kernel_rfl
@[go_sem] theorem zIR:zao Tryd.prog 133=some ⟨1,8,[.fz (.nilf)],.func,false,false,[]⟩:=by kernel_rfl
@[go_sem] theorem zIS:zao Tryd.prog 134=some ⟨1,8,[.fz (.nilf)],.func,false,false,[]⟩:=by kernel_rfl
@[go_sem] theorem zIT:zao Tryd.prog 135=some ⟨1,8,[.fz (.nilf)],.func,false,false,[]⟩:=by kernel_rfl
@[go_sem] theorem zIU:zao Tryd.prog 136=some ⟨1,8,[.fz (.nilf)],.func,false,false,[]⟩:=by kernel_rfl
@[go_sem] theorem zIV:zao Tryd.prog 137=some ⟨1,8,[.fz (.nilf)],.func,false,false,[]⟩:=by kernel_rfl
@[go_sem] theorem zIW:zao Tryd.prog 138=some ⟨1,8,[.fz (.i .u64 0)],(.int .u64),false,false,[]⟩:=by kernel_rfl
@[go_sem] theorem zIX:zao Tryd.prog 139=some ⟨1,8,[.fz (.nilf)],.func,false,false,[]⟩:=by kernel_rfl
@[go_sem] theorem zIY:zao Tryd.prog 140=some ⟨1,8,[.fz (.nilf)],.func,false,false,[]⟩:=by kernel_rfl
@[go_sem] theorem zIZ:zao Tryd.prog 141=some ⟨1,8,[.fz (.nilf)],.func,false,false,[]⟩:=by kernel_rfl
@[go_sem] theorem zI0:zao Tryd.prog 143=some ⟨1,8,[.fz (.nilf)],.func,false,false,[]⟩:=by kernel_rfl
@[go_sem] theorem zI1:zao Tryd.prog 144=some ⟨1,8,[.fz (.nilf)],.func,false,false,[]⟩:=by kernel_rfl
@[go_sem] theorem zI2:zao Tryd.prog 145=some ⟨1,8,[.fz (.nilf)],.func,false,false,[]⟩:=by kernel_rfl
@[go_sem] theorem zI3:zao Tryd.prog 148=some ⟨1,8,[.fz (.nilf)],.func,false,false,[]⟩:=by kernel_rfl
@[go_sem] theorem zI4:zao Tryd.prog 149=some ⟨1,8,[.fz (.nilf)],.func,false,false,[]⟩:=by kernel_rfl
@[go_sem] theorem zI5:zao Tryd.prog 150=some ⟨1,8,[.fz (.nilf)],.func,false,false,[]⟩:=by kernel_rfl
@[go_sem] theorem zI6:zao Tryd.prog 151=some ⟨4,40,[.junk,.junk,.junk,.fz (.s [])],(.struct [(0,17),(1,17),(2,17),(3,9)]),true,false,[.ptr,.ptr,.ptr,.str]⟩:=by kernel_rfl
@[go_sem] theorem zI7:zao Tryd.prog 152=some ⟨4,40,[.junk,.junk,.junk,.fz (.s [])],(.struct [(0,17),(1,17),(2,17),(3,9)]),true,false,[.ptr,.ptr,.ptr,.str]⟩:=by kernel_rfl
@[go_sem] theorem zI8:zao Tryd.prog 154=some ⟨0,0,[],(.struct [(0,153)]),true,false,[.other]⟩:=by kernel_rfl
@[go_sem] theorem zI9:zao Tryd.prog 155=some ⟨0,0,[],(.struct [(0,153)]),true,false,[.other]⟩:=by kernel_rfl
@[go_sem] theorem zJa:zao Tryd.prog 156=some ⟨1,8,[.fz (.nilf)],.func,false,false,[]⟩:=by kernel_rfl
@[go_sem] theorem zJb:zao Tryd.prog 157=some ⟨1,1,[.fz (.i .u8 0)],(.int .u8),false,false,[]⟩:=by kernel_rfl
@[go_sem] theorem zJc:zao Tryd.prog 158=some ⟨1,1,[.fz (.i .u8 0)],(.int .u8),false,false,[]⟩:=by kernel_rfl
@[go_sem] theorem zJd:zao Tryd.prog 159=some ⟨1,8,[.fz (.nilf)],.func,false,false,[]⟩:=by kernel_rfl
@[go_sem] theorem zJe:zao Tryd.prog 161=some ⟨1,4,[.fz (.i .i32 0)],(.int .i32),false,false,[]⟩:=by kernel_rfl
@[go_sem] theorem zJf:zao Tryd.prog 162=some ⟨1,4,[.fz (.i .i32 0)],(.int .i32),false,false,[]⟩:=by kernel_rfl
@[go_sem] theorem zJg:zao Tryd.prog 163=some ⟨11,48,[.fz (.i .u64 0),.fz (.i .u64 0),.fz (.i .u32 0),.fz (.i .u8 0),.fz (.i .u8 0),.fz (.i .u8 0),.fz (.i .u8 0),.fz (.nilf),.junk,.fz (.i .i32 0),.fz (.i .i32 0)],(.struct [(0,12),(1,12),(2,130),(3,157),(4,5),(5,5),(6,158),(7,159),(8,160),(9,161),(10,162)]),true,false,[(.int .u64),(.int .u64),(.int .u32),(.int .u8),(.int .u8),(.int .u8),(.int .u8),.func,.ptr,(.int .i32),(.int .i32)]⟩:=by kernel_rfl
@[go_sem] theorem zJh:zao Tryd.prog 164=some ⟨11,48,[.fz (.i .u64 0),.fz (.i .u64 0),.fz (.i .u32 0),.fz (.i .u8 0),.fz (.i .u8 0),.fz (.i .u8 0),.fz (.i .u8 0),.fz (.nilf),.junk,.fz (.i .i32 0),.fz (.i .i32 0)],(.struct [(0,12),(1,12),(2,130),(3,157),(4,5),(5,5),(6,158),(7,159),(8,160),(9,161),(10,162)]),true,false,[(.int .u64),(.int .u64),(.int .u32),(.int .u8),(.int .u8),(.int .u8),(.int .u8),.func,.ptr,(.int .i32),(.int .i32)]⟩:=by kernel_rfl
theorem ok3:zam Tryd.prog 3:=Tryd.call3
theorem ok5:zam Tryd.prog 5:=Tryd.call5
theorem ok7:zam Tryd.prog 7:=Tryd.call7
theorem ok8:zam Tryd.prog 8:=Tryd.call8
theorem ok9:zam Tryd.prog 9:=Tryd.call9
theorem zFK:zam Tryd.prog 10:=Tryd.call10
theorem zB2:zam Tryd.prog 11:=Tryd.call11
theorem zFL:zam Tryd.prog 12:=Tryd.call12
theorem zD3:zam Tryd.prog 13:=Tryd.call13
theorem zFM:zam Tryd.prog 14:=Tryd.call14
theorem zFN:zam Tryd.prog 15:=Tryd.call15
theorem zAn:zam Tryd.prog 16:=Tryd.call16
theorem zD4:zam Tryd.prog 17:=Tryd.call17
theorem zD5:zam Tryd.prog 18:=Tryd.call18
theorem zFO:zam Tryd.prog 19:=Tryd.call19
theorem zHG:zam Tryd.prog 20:=Tryd.call20
theorem zFP:zam Tryd.prog 21:=Tryd.call21
theorem zFQ:zam Tryd.prog 22:=Tryd.call22
theorem zD6:zam Tryd.prog 23:=Tryd.call23
theorem zFR:zam Tryd.prog 24:=Tryd.call24
theorem zFS:zam Tryd.prog 25:=Tryd.call25
theorem zHH:zam Tryd.prog 26:=Tryd.call26
theorem zFT:zam Tryd.prog 27:=Tryd.call27
theorem zyA:zam Tryd.prog 28:=Tryd.call28
theorem zFU:zam Tryd.prog 29:=Tryd.call29
theorem zD7:zam Tryd.prog 30:=Tryd.call30
theorem zqh:zam Tryd.prog 31:=Tryd.call31
theorem zFV:zam Tryd.prog 32:=Tryd.call32
theorem zFW:zam Tryd.prog 33:=Tryd.call33
theorem zFX:zam Tryd.prog 34:=Tryd.call34
theorem zFY:zam Tryd.prog 35:=Tryd.call35
theorem zFZ:zam Tryd.prog 36:=Tryd.call36
theorem zF0:zam Tryd.prog 37:=Tryd.call37
theorem zB3:zam Tryd.prog 38:=Tryd.call38
theorem zF1:zam Tryd.prog 39:=Tryd.call39
theorem zD8:zam Tryd.prog 40:=Tryd.call40
theorem ztq:zam Tryd.prog 41:=Tryd.call41
theorem zF2:zam Tryd.prog 42:=Tryd.call42
theorem zF3:zam Tryd.prog 43:=Tryd.call43
theorem zF4:zam Tryd.prog 44:=Tryd.call44
theorem zF5:zam Tryd.prog 45:=Tryd.call45
theorem zF6:zam Tryd.prog 46:=Tryd.call46
theorem zF7:zam Tryd.prog 47:=Tryd.call47
theorem zF8:zam Tryd.prog 48:=Tryd.call48
theorem zD9:zam Tryd.prog 49:=Tryd.call49
theorem zEa:zam Tryd.prog 50:=Tryd.call50
theorem zEb:zam Tryd.prog 51:=Tryd.call51
theorem zEc:zam Tryd.prog 52:=Tryd.call52
theorem zHI:zam Tryd.prog 53:=Tryd.call53
theorem zHJ:zam Tryd.prog 54:=Tryd.call54
theorem zF9:zam Tryd.prog 55:=Tryd.call55
theorem zHK:zam Tryd.prog 56:=Tryd.call56
theorem zGa:zam Tryd.prog 57:=Tryd.call57
theorem zEd:zam Tryd.prog 58:=Tryd.call58
theorem zGb:zam Tryd.prog 59:=Tryd.call59
theorem zGc:zam Tryd.prog 60:=Tryd.call60
theorem zHL:zam Tryd.prog 61:=Tryd.call61
theorem zB4:zam Tryd.prog 62:=Tryd.call62
theorem zGd:zam Tryd.prog 63:=Tryd.call63
theorem zHM:zam Tryd.prog 64:=Tryd.call64
theorem zGe:zam Tryd.prog 65:=Tryd.call65
theorem zGf:zam Tryd.prog 66:=Tryd.call66
theorem zGg:zam Tryd.prog 67:=Tryd.call67
theorem zGh:zam Tryd.prog 68:=Tryd.call68
theorem zGi:zam Tryd.prog 69:=Tryd.call69
theorem zGj:zam Tryd.prog 70:=Tryd.call70
theorem zB5:zam Tryd.prog 71:=Tryd.call71
theorem zB6:zam Tryd.prog 72:=Tryd.call72
theorem zHN:zam Tryd.prog 73:=Tryd.call73
theorem zGk:zam Tryd.prog 74:=Tryd.call74
theorem zGl:zam Tryd.prog 75:=Tryd.call75
theorem zGm:zam Tryd.prog 76:=Tryd.call76
theorem zGn:zam Tryd.prog 77:=Tryd.call77
theorem zHO:zam Tryd.prog 78:=Tryd.call78
theorem zGo:zam Tryd.prog 79:=Tryd.call79
theorem zHP:zam Tryd.prog 80:=Tryd.call80
theorem zGp:zam Tryd.prog 81:=Tryd.call81
theorem zGq:zam Tryd.prog 85:=Tryd.call85
theorem zGr:zam Tryd.prog 86:=Tryd.call86
theorem zGs:zam Tryd.prog 87:=Tryd.call87
end Go.Proofs.YtkkffhphodngkaaDoor
