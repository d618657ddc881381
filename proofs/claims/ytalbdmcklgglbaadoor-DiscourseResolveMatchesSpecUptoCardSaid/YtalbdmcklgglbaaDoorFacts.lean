import Derived.Test.YtalbdmcklgglbaaDoorProg
import Derived.Test.YtalbdmcklgglbaaDoorA2
import Derived.KernelRfl
namespace Go.Proofs.YtalbdmcklgglbaaDoor
open Go Go.Abs Go.Proofs
theorem hm:Tryd.prog.follows .mixedOrders=true:=by kernel_rfl
@[go_sem] theorem ti1:zaq Tryd.prog 1=some ⟨1,8,[.fz (.nilf)],.func,false,false,[]⟩:=by kernel_rfl
@[go_sem] theorem ti2:zaq Tryd.prog 2=some ⟨1,8,[.fz (.i .i64 0)],(.int .i64),false,false,[]⟩:=by kernel_rfl
@[go_sem] theorem ti3:zaq Tryd.prog 3=some ⟨1,8,[.fz (.i .i64 0)],(.int .i64),false,false,[]⟩:=by kernel_rfl
@[go_sem] theorem ti4:zaq Tryd.prog 4=some ⟨1,1,[.fz (.b false)],.bool,false,false,[]⟩:=by kernel_rfl
@[go_sem] theorem ti5:zaq Tryd.prog 5=some ⟨1,1,[.fz (.i .u8 0)],(.int .u8),false,false,[]⟩:=by kernel_rfl
@[go_sem] theorem ti6:zaq Tryd.prog 6=some ⟨1,1,[.fz (.i .u8 0)],(.int .u8),false,false,[]⟩:=by kernel_rfl
@[go_sem] theorem ti7:zaq Tryd.prog 7=some ⟨4,24,[.fz (.i .i64 0),.fz (.i .i64 0),.fz (.b false),.fz (.i .u8 0)],(.struct [(0,2),(1,3),(2,4),(3,6)]),true,true,[(.int .i64),(.int .i64),.bool,(.int .u8)]⟩:=by kernel_rfl
@[go_sem] theorem ti8:zaq Tryd.prog 8=some ⟨4,24,[.fz (.i .i64 0),.fz (.i .i64 0),.fz (.b false),.fz (.i .u8 0)],(.struct [(0,2),(1,3),(2,4),(3,6)]),true,true,[(.int .i64),(.int .i64),.bool,(.int .u8)]⟩:=by kernel_rfl
@[go_sem] theorem ti9:zaq Tryd.prog 9=some ⟨1,16,[.fz (.s [])],.str,false,false,[]⟩:=by kernel_rfl
@[go_sem] theorem zH0:zaq Tryd.prog 10=some ⟨1,16,[.fz (.s [])],.str,false,false,[]⟩:=by kernel_rfl
@[go_sem] theorem zH1:zaq Tryd.prog 11=some ⟨1,16,[.fz (.s [])],.str,false,false,[]⟩:=by kernel_rfl
@[go_sem] theorem zH2:zaq Tryd.prog 12=some ⟨1,8,[.fz (.i .u64 0)],(.int .u64),false,false,[]⟩:=by kernel_rfl
@[go_sem] theorem zH3:zaq Tryd.prog 13=some ⟨2,24,[.fz (.s []),.fz (.i .u64 0)],(.struct [(0,9),(1,12)]),true,false,[.str,(.int .u64)]⟩:=by kernel_rfl
@[go_sem] theorem zH4:zaq Tryd.prog 14=some ⟨2,24,[.fz (.s []),.fz (.i .u64 0)],(.struct [(0,9),(1,12)]),true,false,[.str,(.int .u64)]⟩:=by kernel_rfl
@[go_sem] theorem zH5:zaq Tryd.prog 18=some ⟨1,8,[.junk],(.struct [(0,17)]),true,false,[.ptr]⟩:=by kernel_rfl
@[go_sem] theorem zH6:zaq Tryd.prog 19=some ⟨1,8,[.junk],(.struct [(0,17)]),true,false,[.ptr]⟩:=by kernel_rfl
@[go_sem] theorem zH7:zaq Tryd.prog 21=some ⟨1,4,[.fz (.i .i32 0)],(.int .i32),false,false,[]⟩:=by kernel_rfl
@[go_sem] theorem zH8:zaq Tryd.prog 22=some ⟨1,24,[.full []],(.slice 9),false,false,[]⟩:=by kernel_rfl
@[go_sem] theorem zH9:zaq Tryd.prog 23=some ⟨1,24,[.full []],(.slice 50),false,false,[]⟩:=by kernel_rfl
@[go_sem] theorem zIa:zaq Tryd.prog 24=some ⟨2,48,[.full [],.full []],(.struct [(0,22),(1,23)]),true,false,[(.slice 9),(.slice 50)]⟩:=by kernel_rfl
@[go_sem] theorem zIb:zaq Tryd.prog 25=some ⟨2,48,[.full [],.full []],(.struct [(0,22),(1,23)]),true,false,[(.slice 9),(.slice 50)]⟩:=by kernel_rfl
@[go_sem] theorem zIc:zaq Tryd.prog 26=some ⟨1,24,[.full []],(.slice 25),false,false,[]⟩:=by kernel_rfl
@[go_sem] theorem zId:zaq Tryd.prog 27=some ⟨2,16,[.fz (.i .i64 0),.fz (.i .i64 0)],(.struct [(0,3),(1,3)]),true,true,[(.int .i64),(.int .i64)]⟩:=by kernel_rfl
@[go_sem] theorem zIe:zaq Tryd.prog 28=some ⟨2,16,[.fz (.i .i64 0),.fz (.i .i64 0)],(.struct [(0,3),(1,3)]),true,true,[(.int .i64),(.int .i64)]⟩:=by kernel_rfl
@[go_sem] theorem zIf:zaq Tryd.prog 30=some ⟨1,8,[.fz (.nilf)],.func,false,false,[]⟩:=by kernel_rfl
@[go_sem] theorem zIg:zaq Tryd.prog 31=some ⟨1,8,[.fz (.nilf)],.func,false,false,[]⟩:=by kernel_rfl
@[go_sem] theorem zIh:zaq Tryd.prog 32=some ⟨1,8,[.fz (.nilf)],.func,false,false,[]⟩:=by kernel_rfl
@[go_sem] theorem zIi:zaq Tryd.prog 34=some ⟨1,8,[.fz (.nilf)],.func,false,false,[]⟩:=by kernel_rfl
@[go_sem] theorem zIj:zaq Tryd.prog 35=some ⟨1,8,[.fz (.nilf)],.func,false,false,[]⟩:=by kernel_rfl
@[go_sem] theorem zIk:zaq Tryd.prog 36=some ⟨1,8,[.fz (.nilf)],.func,false,false,[]⟩:=by kernel_rfl
@[go_sem] theorem zIl:zaq Tryd.prog 37=some ⟨1,8,[.fz (.nilf)],.func,false,false,[]⟩:=by kernel_rfl
@[go_sem] theorem zIm:zaq Tryd.prog 39=some ⟨1,8,[.fz (.nilf)],.func,false,false,[]⟩:=by kernel_rfl
@[go_sem] theorem zIn:zaq Tryd.prog 40=some ⟨2,48,[.full [],.full []],(.struct [(0,22),(1,23)]),true,false,[(.slice 9),(.slice 50)]⟩:=by kernel_rfl
@[go_sem] theorem zIo:zaq Tryd.prog 41=some ⟨2,48,[.full [],.full []],(.struct [(0,22),(1,23)]),true,false,[(.slice 9),(.slice 50)]⟩:=by kernel_rfl
@[go_sem] theorem zIp:zaq Tryd.prog 42=some ⟨1,8,[.fz (.nilf)],.func,false,false,[]⟩:=by kernel_rfl
@[go_sem] theorem zIq:zaq Tryd.prog 43=some ⟨1,8,[.fz (.nilf)],.func,false,false,[]⟩:=by kernel_rfl
@[go_sem] theorem zIr:zaq Tryd.prog 44=some ⟨1,8,[.fz (.nilf)],.func,false,false,[]⟩:=by kernel_rfl
@[go_sem] theorem zIs:zaq Tryd.prog 45=some ⟨1,8,[.fz (.nilf)],.func,false,false,[]⟩:=by kernel_rfl
@[go_sem] theorem zIt:zaq Tryd.prog 46=some ⟨1,24,[.full []],(.slice 48),false,false,[]⟩:=by kernel_rfl
@[go_sem] theorem zIu:zaq Tryd.prog 47=some ⟨4,72,[.fz (.i .i64 0),.fz (.s []),.full [],.full []],(.struct [(0,3),(1,9),(2,22),(3,46)]),true,false,[(.int .i64),.str,(.slice 9),(.slice 48)]⟩:=by kernel_rfl
@[go_sem] theorem zIv:zaq Tryd.prog 48=some ⟨4,72,[.fz (.i .i64 0),.fz (.s []),.full [],.full []],(.struct [(0,3),(1,9),(2,22),(3,46)]),true,false,[(.int .i64),.str,(.slice 9),(.slice 48)]⟩:=by kernel_rfl
@[go_sem] theorem zIw:zaq Tryd.prog 49=some ⟨7,120,[.fz (.i .i64 0),.fz (.s []),.fz (.i .i64 0),.fz (.s []),.full [],.full [],.full []],(.struct [(0,3),(1,9),(2,48),(6,26)]),true,false,[(.int .i64),.str,(.struct [(0,3),(1,9),(2,22),(3,46)]),(.slice 25)]⟩:=by kernel_rfl
@[go_sem] theorem zHj:zaq Tryd.prog 50=some ⟨7,120,[.fz (.i .i64 0),.fz (.s []),.fz (.i .i64 0),.fz (.s []),.full [],.full [],.full []],(.struct [(0,3),(1,9),(2,48),(6,26)]),true,false,[(.int .i64),.str,(.struct [(0,3),(1,9),(2,22),(3,46)]),(.slice 25)]⟩:=by kernel_rfl
@[go_sem] theorem zIx:zaq Tryd.prog 51=some ⟨1,8,[.fz (.nilf)],.func,false,false,[]⟩:=by kernel_rfl
@[go_sem] theorem zIy:zaq Tryd.prog 52=some ⟨1,8,[.fz (.nilf)],.func,false,false,[]⟩:=by kernel_rfl
@[go_sem] theorem zIz:zaq Tryd.prog 55=some ⟨1,24,[.full []],(.slice 3),false,false,[]⟩:=by kernel_rfl
@[go_sem] theorem zIA:zaq Tryd.prog 57=some ⟨1,8,[.fz (.nilf)],.func,false,false,[]⟩:=by kernel_rfl
@[go_sem] theorem zIB:zaq Tryd.prog 58=some ⟨1,8,[.fz (.nilf)],.func,false,false,[]⟩:=by kernel_rfl
@[go_sem] theorem zIC:zaq Tryd.prog 59=some ⟨1,8,[.fz (.nilf)],.func,false,false,[]⟩:=by kernel_rfl
@[go_sem] theorem zID:zaq Tryd.prog 60=some ⟨1,8,[.fz (.nilf)],.func,false,false,[]⟩:=by kernel_rfl
@[go_sem] theorem zIE:zaq Tryd.prog 61=some ⟨1,8,[.fz (.nilf)],.func,false,false,[]⟩:=by kernel_rfl
@[go_sem] theorem zIF:zaq Tryd.prog 62=some ⟨1,8,[.fz (.nilf)],.func,false,false,[]⟩:=by kernel_rfl
@[go_sem] theorem zIG:zaq Tryd.prog 63=some ⟨1,8,[.fz (.nilf)],.func,false,false,[]⟩:=by kernel_rfl
@[go_sem] theorem zIH:zaq Tryd.prog 64=some ⟨1,8,[.fz (.nilf)],.func,false,false,[]⟩:=by kernel_rfl
@[go_sem] theorem zII:zaq Tryd.prog 65=some ⟨1,8,[.fz (.nilf)],.func,false,false,[]⟩:=by kernel_rfl
@[go_sem] theorem zIJ:zaq Tryd.prog 66=some ⟨1,8,[.fz (.nilf)],.func,false,false,[]⟩:=by kernel_rfl
@[go_sem] theorem zIK:zaq Tryd.prog 67=some ⟨1,8,[.fz (.nilf)],.func,false,false,[]⟩:=by kernel_rfl
@[go_sem] theorem zIL:zaq Tryd.prog 68=some ⟨1,8,[.fz (.nilf)],.func,false,false,[]⟩:=by kernel_rfl
@[go_sem] theorem zIM:zaq Tryd.prog 69=some ⟨1,8,[.fz (.nilf)],.func,false,false,[]⟩:=by kernel_rfl
@[go_sem] theorem zIN:zaq Tryd.prog 70=some ⟨1,24,[.full []],(.slice 73),false,false,[]⟩:=by kernel_rfl
@[go_sem] theorem zIO:zaq Tryd.prog 71=some ⟨1,8,[.fz (.nilf)],.func,false,false,[]⟩:=by kernel_rfl
@[go_sem] theorem zIP:zaq Tryd.prog 72=some ⟨4,96,[.full [],.full [],.full [],.full []],(.struct [(0,23),(1,22),(2,25)]),true,false,[(.slice 50),(.slice 9),(.struct [(0,22),(1,23)])]⟩:=by kernel_rfl
@[go_sem] theorem zIQ:zaq Tryd.prog 73=some ⟨4,96,[.full [],.full [],.full [],.full []],(.struct [(0,23),(1,22),(2,25)]),true,false,[(.slice 50),(.slice 9),(.struct [(0,22),(1,23)])]⟩:=by kernel_rfl
@[go_sem] theorem zIR:zaq Tryd.prog 74=some ⟨1,8,[.fz (.nilf)],.func,false,false,[]⟩:=by kernel_rfl
@[go_sem] theorem zIS:zaq Tryd.prog 75=some ⟨1,8,[.fz (.nilf)],.func,false,false,[]⟩:=by kernel_rfl
@[go_sem] theorem zIT:zaq Tryd.prog 76=some ⟨1,8,[.fz (.nilf)],.func,false,false,[]⟩:=by kernel_rfl
@[go_sem] theorem zIU:zaq Tryd.prog 77=some ⟨1,8,[.fz (.nilf)],.func,false,false,[]⟩:=by kernel_rfl
@[go_sem] theorem zIV:zaq Tryd.prog 78=some ⟨1,8,[.fz (.nilf)],.func,false,false,[]⟩:=by kernel_rfl
@[go_sem] theorem zIW:zaq Tryd.prog 79=some ⟨1,8,[.fz (.nilf)],.func,false,false,[]⟩:=by kernel_rfl
@[go_sem] theorem zIX:zaq Tryd.prog 80=some ⟨1,8,[.fz (.nilf)],.func,false,false,[]⟩:=by kernel_rfl
@[go_sem] theorem zIY:zaq Tryd.prog 81=some ⟨1,8,[.fz (.nilf)],.func,false,false,[]⟩:=by kernel_rfl
@[go_sem] theorem zIZ:zaq Tryd.prog 82=some ⟨1,8,[.fz (.nilf)],.func,false,false,[]⟩:=by kernel_rfl
@[go_sem] theorem zI0:zaq Tryd.prog 83=some ⟨1,24,[.full []],(.slice 22),false,false,[]⟩:=by kernel_rfl
@[go_sem] theorem zI1:zaq Tryd.prog 84=some ⟨1,8,[.fz (.nilf)],.func,false,false,[]⟩:=by kernel_rfl
@[go_sem] theorem zI2:zaq Tryd.prog 85=some ⟨1,24,[.full []],(.slice 23),false,false,[]⟩:=by kernel_rfl
@[go_sem] theorem zI3:zaq Tryd.prog 86=some ⟨1,8,[.fz (.nilf)],.func,false,false,[]⟩:=by kernel_rfl
@[go_sem] theorem zI4:zaq Tryd.prog 87=some ⟨1,8,[.fz (.nilf)],.func,false,false,[]⟩:=by kernel_rfl
@[go_sem] theorem zI5:zaq Tryd.prog 88=some ⟨1,8,[.fz (.nilf)],.func,false,false,[]⟩:=by kernel_rfl
@[go_sem] theorem zI6:zaq Tryd.prog 89=some ⟨1,8,[.fz (.nilf)],.func,false,false,[]⟩:=by kernel_rfl
@[go_sem] theorem zI7:zaq Tryd.prog 90=some ⟨1,8,[.fz (.nilf)],.func,false,false,[]⟩:=by kernel_rfl
@[go_sem] theorem zI8:zaq Tryd.prog 91=some ⟨1,8,[.fz (.nilf)],.func,false,false,[]⟩:=by kernel_rfl
@[go_sem] theorem zI9:zaq Tryd.prog 92=some ⟨1,8,[.fz (.nilf)],.func,false,false,[]⟩:=by kernel_rfl
@[go_sem] theorem zJa:zaq Tryd.prog 93=some ⟨1,8,[.fz (.nilf)],.func,false,false,[]⟩:=by kernel_rfl
@[go_sem] theorem zJb:zaq Tryd.prog 94=some ⟨1,8,[.fz (.nilf)],.func,false,false,[]⟩:=by kernel_rfl
@[go_sem] theorem zJc:zaq Tryd.prog 95=some ⟨1,8,[.fz (.nilf)],.func,false,false,[]⟩:=by kernel_rfl
@[go_sem] theorem zJd:zaq Tryd.prog 96=some ⟨1,8,[.fz (.nilf)],.func,false,false,[]⟩:=by kernel_rfl
@[go_sem] theorem zJe:zaq Tryd.prog 97=some ⟨1,8,[.fz (.nilf)],.func,false,false,[]⟩:=by kernel_rfl
@[go_sem] theorem zJf:zaq Tryd.prog 98=some ⟨1,8,[.fz (.nilf)],.func,false,false,[]⟩:=by kernel_rfl
@[go_sem] theorem zJg:zaq Tryd.prog 99=some ⟨1,8,[.fz (.nilf)],.func,false,false,[]⟩:=by kernel_rfl
@[go_sem] theorem zGY:zaq Tryd.prog 100=some ⟨1,8,[.fz (.nilf)],.func,false,false,[]⟩:=by kernel_rfl
@[go_sem] theorem zGZ:zaq Tryd.prog 101=some ⟨1,24,[.full []],(.slice 5),false,false,[]⟩:=by kernel_rfl
@[go_sem] theorem zG0:zaq Tryd.prog 102=some ⟨1,8,[.fz (.nilf)],.func,false,false,[]⟩:=by kernel_rfl
@[go_sem] theorem zG1:zaq Tryd.prog 103=some ⟨1,8,[.fz (.nilf)],.func,false,false,[]⟩:=by kernel_rfl
@[go_sem] theorem zG2:zaq Tryd.prog 104=some ⟨5,80,[.fz (.i .i64 0),.fz (.s []),.full [],.full [],.fz (.i .i64 0)],(.struct [(0,48),(4,3)]),true,false,[(.struct [(0,3),(1,9),(2,22),(3,46)]),(.int .i64)]⟩:=by kernel_rfl
@[go_sem] theorem zG3:zaq Tryd.prog 105=some ⟨5,80,[.fz (.i .i64 0),.fz (.s []),.full [],.full [],.fz (.i .i64 0)],(.struct [(0,48),(4,3)]),true,false,[(.struct [(0,3),(1,9),(2,22),(3,46)]),(.int .i64)]⟩:=by kernel_rfl
@[go_sem] theorem zG4:zaq Tryd.prog 106=some ⟨1,24,[.full []],(.slice 105),false,false,[]⟩:=by kernel_rfl
@[go_sem] theorem zG5:zaq Tryd.prog 107=some ⟨1,8,[.fz (.nilf)],.func,false,false,[]⟩:=by kernel_rfl
@[go_sem] theorem zG6:zaq Tryd.prog 108=some ⟨4,40,[.junk,.junk,.junk,.fz (.s [])],(.struct [(0,17),(1,17),(2,17),(3,9)]),true,false,[.ptr,.ptr,.ptr,.str]⟩:=by kernel_rfl
@[go_sem] theorem zG7:zaq Tryd.prog 109=some ⟨4,40,[.junk,.junk,.junk,.fz (.s [])],(.struct [(0,17),(1,17),(2,17),(3,9)]),true,false,[.ptr,.ptr,.ptr,.str]⟩:=by kernel_rfl
@[go_sem] theorem zG8:zaq Tryd.prog 111=some ⟨0,0,[],(.struct [(0,110)]),true,false,[.other]⟩:=by kernel_rfl
@[go_sem] theorem zG9:zaq Tryd.prog 112=some ⟨0,0,[],(.struct [(0,110)]),true,false,[.other]⟩:=by kernel_rfl
@[go_sem] theorem zHa:zaq Tryd.prog 113=some ⟨1,8,[.fz (.nilf)],.func,false,false,[]⟩:=by kernel_rfl
@[go_sem] theorem zHb:zaq Tryd.prog 114=some ⟨1,4,[.fz (.i .u32 0)],(.int .u32),false,false,[]⟩:=by kernel_rfl
@[go_sem] theorem zHc:zaq Tryd.prog 115=some ⟨1,1,[.fz (.i .u8 0)],(.int .u8),false,false,[]⟩:=by kernel_rfl
@[go_sem] theorem zHd:zaq Tryd.prog 116=some ⟨1,1,[.fz (.i .u8 0)],(.int .u8),false,false,[]⟩:=by kernel_rfl
@[go_sem] theorem zHe:zaq Tryd.prog 117=some ⟨1,8,[.fz (.nilf)],.func,false,false,[]⟩:=by kernel_rfl
@[go_sem] theorem zHf:zaq Tryd.prog 119=some ⟨1,4,[.fz (.i .i32 0)],(.int .i32),false,false,[]⟩:=by kernel_rfl
@[go_sem] theorem zHg:zaq Tryd.prog 120=some ⟨1,4,[.fz (.i .i32 0)],(.int .i32),false,false,[]⟩:=by kernel_rfl
@[go_sem] theorem zHh:zaq Tryd.prog 121=some ⟨11,48,[.fz (.i .u64 0),.fz (.i .u64 0),.fz (.i .u32 0),.fz (.i .u8 0),.fz (.i .u8 0),.fz (.i .u8 0),.fz (.i .u8 0),.fz (.nilf),.junk,.fz (.i .i32 0),.fz (.i .i32 0)],(.struct [(0,12),(1,12),(2,114),(3,115),(4,5),(5,5),(6,116),(7,117),(8,118),(9,119),(10,120)]),true,false,[(.int .u64),(.int .u64),(.int .u32),(.int .u8),(.int .u8),(.int .u8),(.int .u8),.func,.ptr,(.int .i32),(.int .i32)]⟩:=by kernel_rfl
@[go_sem] theorem zHi:zaq Tryd.prog 122=some ⟨11,48,[.fz (.i .u64 0),.fz (.i .u64 0),.fz (.i .u32 0),.fz (.i .u8 0),.fz (.i .u8 0),.fz (.i .u8 0),.fz (.i .u8 0),.fz (.nilf),.junk,.fz (.i .i32 0),.fz (.i .i32 0)],(.struct [(0,12),(1,12),(2,114),(3,115),(4,5),(5,5),(6,116),(7,117),(8,118),(9,119),(10,120)]),true,false,[(.int .u64),(.int .u64),(.int .u32),(.int .u8),(.int .u8),(.int .u8),(.int .u8),.func,.ptr,(.int .i32),(.int .i32)]⟩:=by kernel_rfl
theorem ok3:zam Tryd.prog 3:=Tryd.call3
theorem ok4:zam Tryd.prog 4:=Tryd.call4
theorem ok5:zam Tryd.prog 5:=Tryd.call5
theorem ok6:zam Tryd.prog 6:=Tryd.call6
theorem ok7:zam Tryd.prog 7:=Tryd.call7
theorem ok8:zam Tryd.prog 8:=Tryd.call8
theorem ok9:zam Tryd.prog 9:=Tryd.call9
theorem zEI:zam Tryd.prog 10:=Tryd.call10
theorem zEJ:zam Tryd.prog 11:=Tryd.call11
theorem zEK:zam Tryd.prog 12:=Tryd.call12
theorem zAV:zam Tryd.prog 13:=Tryd.call13
theorem zEL:zam Tryd.prog 14:=Tryd.call14
theorem zGr:zam Tryd.prog 15:=Tryd.call15
theorem zEM:zam Tryd.prog 16:=Tryd.call16
theorem zEN:zam Tryd.prog 17:=Tryd.call17
theorem zEO:zam Tryd.prog 18:=Tryd.call18
theorem zEP:zam Tryd.prog 19:=Tryd.call19
theorem zEQ:zam Tryd.prog 20:=Tryd.call20
theorem zER:zam Tryd.prog 21:=Tryd.call21
theorem zGs:zam Tryd.prog 22:=Tryd.call22
theorem zES:zam Tryd.prog 23:=Tryd.call23
theorem zET:zam Tryd.prog 24:=Tryd.call24
theorem zEU:zam Tryd.prog 25:=Tryd.call25
theorem zC5:zam Tryd.prog 26:=Tryd.call26
theorem zGt:zam Tryd.prog 27:=Tryd.call27
theorem zEV:zam Tryd.prog 28:=Tryd.call28
theorem zEW:zam Tryd.prog 29:=Tryd.call29
theorem zEX:zam Tryd.prog 30:=Tryd.call30
theorem zEY:zam Tryd.prog 31:=Tryd.call31
theorem zEZ:zam Tryd.prog 32:=Tryd.call32
theorem zE0:zam Tryd.prog 33:=Tryd.call33
theorem zE1:zam Tryd.prog 34:=Tryd.call34
theorem zE2:zam Tryd.prog 35:=Tryd.call35
theorem zE3:zam Tryd.prog 36:=Tryd.call36
theorem zzu:zam Tryd.prog 37:=Tryd.call37
theorem zC6:zam Tryd.prog 38:=Tryd.call38
theorem zGu:zam Tryd.prog 39:=Tryd.call39
theorem zGv:zam Tryd.prog 40:=Tryd.call40
theorem zGw:zam Tryd.prog 41:=Tryd.call41
theorem zE4:zam Tryd.prog 42:=Tryd.call42
theorem zE5:zam Tryd.prog 43:=Tryd.call43
theorem zE6:zam Tryd.prog 44:=Tryd.call44
theorem zE7:zam Tryd.prog 45:=Tryd.call45
theorem zE8:zam Tryd.prog 46:=Tryd.call46
theorem zAW:zam Tryd.prog 47:=Tryd.call47
theorem zC7:zam Tryd.prog 48:=Tryd.call48
theorem zGx:zam Tryd.prog 49:=Tryd.call49
theorem zGy:zam Tryd.prog 50:=Tryd.call50
theorem zE9:zam Tryd.prog 51:=Tryd.call51
theorem zFa:zam Tryd.prog 52:=Tryd.call52
theorem zFb:zam Tryd.prog 53:=Tryd.call53
theorem zFc:zam Tryd.prog 54:=Tryd.call54
theorem zC8:zam Tryd.prog 55:=Tryd.call55
theorem zFd:zam Tryd.prog 56:=Tryd.call56
theorem zFe:zam Tryd.prog 57:=Tryd.call57
theorem zFf:zam Tryd.prog 58:=Tryd.call58
theorem zzv:zam Tryd.prog 59:=Tryd.call59
theorem zFg:zam Tryd.prog 60:=Tryd.call60
theorem zFh:zam Tryd.prog 61:=Tryd.call61
theorem zFi:zam Tryd.prog 62:=Tryd.call62
theorem zFj:zam Tryd.prog 63:=Tryd.call63
theorem zFk:zam Tryd.prog 64:=Tryd.call64
theorem zGz:zam Tryd.prog 65:=Tryd.call65
theorem zFl:zam Tryd.prog 66:=Tryd.call66
theorem zFm:zam Tryd.prog 67:=Tryd.call67
theorem zFn:zam Tryd.prog 68:=Tryd.call68
theorem zFo:zam Tryd.prog 69:=Tryd.call69
theorem zFp:zam Tryd.prog 70:=Tryd.call70
theorem zGA:zam Tryd.prog 71:=Tryd.call71
theorem zFq:zam Tryd.prog 72:=Tryd.call72
theorem zFr:zam Tryd.prog 73:=Tryd.call73
theorem zFs:zam Tryd.prog 74:=Tryd.call74
theorem zC9:zam Tryd.prog 75:=Tryd.call75
theorem zGB:zam Tryd.prog 76:=Tryd.call76
theorem zFt:zam Tryd.prog 77:=Tryd.call77
theorem zFu:zam Tryd.prog 78:=Tryd.call78
end Go.Proofs.YtalbdmcklgglbaaDoor
