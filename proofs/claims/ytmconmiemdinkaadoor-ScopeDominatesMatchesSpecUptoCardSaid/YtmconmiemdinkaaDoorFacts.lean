import Derived.Test.YtmconmiemdinkaaDoorProg
import Derived.Test.YtmconmiemdinkaaDoorA2
import Derived.KernelRfl
namespace Go.Proofs.YtmconmiemdinkaaDoor
open Go Go.Abs Go.Proofs
theorem hm:Tryd.prog.follows .mixedOrders=true:=by kernel_rfl
@[go_sem] theorem ti1:zas Tryd.prog 1=some ⟨1,8,[.fz (.nilf)],.func,false,false,[]⟩:=by kernel_rfl
@[go_sem] theorem ti2:zas Tryd.prog 2=some ⟨1,8,[.fz (.i .i64 0)],(.int .i64),false,false,[]⟩:=by kernel_rfl
@[go_sem] theorem ti3:zas Tryd.prog 3=some ⟨1,8,[.fz (.i .i64 0)],(.int .i64),false,false,[]⟩:=by kernel_rfl
@[go_sem] theorem ti4:zas Tryd.prog 4=some ⟨1,1,[.fz (.b false)],.bool,false,false,[]⟩:=by kernel_rfl
@[go_sem] theorem ti5:zas Tryd.prog 5=some ⟨1,1,[.fz (.i .u8 0)],(.int .u8),false,false,[]⟩:=by kernel_rfl
@[go_sem] theorem ti6:zas Tryd.prog 6=some ⟨1,1,[.fz (.i .u8 0)],(.int .u8),false,false,[]⟩:=by kernel_rfl
@[go_sem] theorem ti7:zas Tryd.prog 7=some ⟨4,24,[.fz (.i .i64 0),.fz (.i .i64 0),.fz (.b false),.fz (.i .u8 0)],(.struct [(0,2),(1,3),(2,4),(3,6)]),true,true,[(.int .i64),(.int .i64),.bool,(.int .u8)]⟩:=by kernel_rfl
@[go_sem] theorem ti8:zas Tryd.prog 8=some ⟨4,24,[.fz (.i .i64 0),.fz (.i .i64 0),.fz (.b false),.fz (.i .u8 0)],(.struct [(0,2),(1,3),(2,4),(3,6)]),true,true,[(.int .i64),(.int .i64),.bool,(.int .u8)]⟩:=by kernel_rfl
@[go_sem] theorem ti9:zas Tryd.prog 9=some ⟨1,16,[.fz (.s [])],.str,false,false,[]⟩:=by kernel_rfl
@[go_sem] theorem zF9:zas Tryd.prog 10=some ⟨1,16,[.fz (.s [])],.str,false,false,[]⟩:=by kernel_rfl
@[go_sem] theorem zGa:zas Tryd.prog 11=some ⟨1,16,[.fz (.s [])],.str,false,false,[]⟩:=by kernel_rfl
@[go_sem] theorem zGb:zas Tryd.prog 12=some ⟨1,8,[.fz (.i .u64 0)],(.int .u64),false,false,[]⟩:=by kernel_rfl
@[go_sem] theorem zGc:zas Tryd.prog 13=some ⟨2,24,[.fz (.s []),.fz (.i .u64 0)],(.struct [(0,9),(1,12)]),true,false,[.str,(.int .u64)]⟩:=by kernel_rfl
@[go_sem] theorem zGd:zas Tryd.prog 14=some ⟨2,24,[.fz (.s []),.fz (.i .u64 0)],(.struct [(0,9),(1,12)]),true,false,[.str,(.int .u64)]⟩:=by kernel_rfl
@[go_sem] theorem zGe:zas Tryd.prog 18=some ⟨1,8,[.junk],(.struct [(0,17)]),true,false,[.ptr]⟩:=by kernel_rfl
@[go_sem] theorem zGf:zas Tryd.prog 19=some ⟨1,8,[.junk],(.struct [(0,17)]),true,false,[.ptr]⟩:=by kernel_rfl
@[go_sem] theorem zGg:zas Tryd.prog 21=some ⟨1,4,[.fz (.i .i32 0)],(.int .i32),false,false,[]⟩:=by kernel_rfl
@[go_sem] theorem zGh:zas Tryd.prog 22=some ⟨1,24,[.full []],(.slice 37),false,false,[]⟩:=by kernel_rfl
@[go_sem] theorem zGi:zas Tryd.prog 23=some ⟨1,24,[.full []],(.slice 64),false,false,[]⟩:=by kernel_rfl
@[go_sem] theorem zGj:zas Tryd.prog 24=some ⟨1,24,[.full []],(.slice 9),false,false,[]⟩:=by kernel_rfl
@[go_sem] theorem zGk:zas Tryd.prog 25=some ⟨3,72,[.full [],.full [],.full []],(.struct [(0,22),(1,23),(2,24)]),true,false,[(.slice 37),(.slice 64),(.slice 9)]⟩:=by kernel_rfl
@[go_sem] theorem zGl:zas Tryd.prog 26=some ⟨3,72,[.full [],.full [],.full []],(.struct [(0,22),(1,23),(2,24)]),true,false,[(.slice 37),(.slice 64),(.slice 9)]⟩:=by kernel_rfl
@[go_sem] theorem zGm:zas Tryd.prog 27=some ⟨2,16,[.fz (.i .i64 0),.fz (.i .i64 0)],(.struct [(0,3),(1,3)]),true,true,[(.int .i64),(.int .i64)]⟩:=by kernel_rfl
@[go_sem] theorem zGn:zas Tryd.prog 28=some ⟨2,16,[.fz (.i .i64 0),.fz (.i .i64 0)],(.struct [(0,3),(1,3)]),true,true,[(.int .i64),(.int .i64)]⟩:=by kernel_rfl
@[go_sem] theorem zGo:zas Tryd.prog 30=some ⟨1,8,[.fz (.nilf)],.func,false,false,[]⟩:=by kernel_rfl
@[go_sem] theorem zGp:zas Tryd.prog 31=some ⟨1,8,[.fz (.nilf)],.func,false,false,[]⟩:=by kernel_rfl
@[go_sem] theorem zGq:zas Tryd.prog 32=some ⟨1,8,[.fz (.nilf)],.func,false,false,[]⟩:=by kernel_rfl
@[go_sem] theorem zGr:zas Tryd.prog 33=some ⟨1,24,[.full []],(.slice 35),false,false,[]⟩:=by kernel_rfl
@[go_sem] theorem zGs:zas Tryd.prog 34=some ⟨4,72,[.fz (.i .i64 0),.fz (.s []),.full [],.full []],(.struct [(0,3),(1,9),(2,24),(3,33)]),true,false,[(.int .i64),.str,(.slice 9),(.slice 35)]⟩:=by kernel_rfl
@[go_sem] theorem zGt:zas Tryd.prog 35=some ⟨4,72,[.fz (.i .i64 0),.fz (.s []),.full [],.full []],(.struct [(0,3),(1,9),(2,24),(3,33)]),true,false,[(.int .i64),.str,(.slice 9),(.slice 35)]⟩:=by kernel_rfl
@[go_sem] theorem zGu:zas Tryd.prog 36=some ⟨5,88,[.fz (.s []),.fz (.i .i64 0),.fz (.s []),.full [],.full []],(.struct [(0,9),(1,35)]),true,false,[.str,(.struct [(0,3),(1,9),(2,24),(3,33)])]⟩:=by kernel_rfl
@[go_sem] theorem zGv:zas Tryd.prog 37=some ⟨5,88,[.fz (.s []),.fz (.i .i64 0),.fz (.s []),.full [],.full []],(.struct [(0,9),(1,35)]),true,false,[.str,(.struct [(0,3),(1,9),(2,24),(3,33)])]⟩:=by kernel_rfl
@[go_sem] theorem zGw:zas Tryd.prog 38=some ⟨1,24,[.full []],(.slice 43),false,false,[]⟩:=by kernel_rfl
@[go_sem] theorem zGx:zas Tryd.prog 40=some ⟨1,8,[.fz (.nilf)],.func,false,false,[]⟩:=by kernel_rfl
@[go_sem] theorem zGy:zas Tryd.prog 41=some ⟨1,8,[.fz (.nilf)],.func,false,false,[]⟩:=by kernel_rfl
@[go_sem] theorem zGz:zas Tryd.prog 42=some ⟨1,24,[.full []],(.slice 3),false,false,[]⟩:=by kernel_rfl
@[go_sem] theorem zGA:zas Tryd.prog 43=some ⟨1,24,[.full []],(.slice 3),false,false,[]⟩:=by kernel_rfl
@[go_sem] theorem zGB:zas Tryd.prog 44=some ⟨1,8,[.fz (.nilf)],.func,false,false,[]⟩:=by kernel_rfl
@[go_sem] theorem zGC:zas Tryd.prog 45=some ⟨1,8,[.fz (.nilf)],.func,false,false,[]⟩:=by kernel_rfl
@[go_sem] theorem zGD:zas Tryd.prog 46=some ⟨1,8,[.fz (.nilf)],.func,false,false,[]⟩:=by kernel_rfl
@[go_sem] theorem zGE:zas Tryd.prog 47=some ⟨1,8,[.fz (.nilf)],.func,false,false,[]⟩:=by kernel_rfl
@[go_sem] theorem zGF:zas Tryd.prog 48=some ⟨1,24,[.full []],(.slice 51),false,false,[]⟩:=by kernel_rfl
@[go_sem] theorem zGG:zas Tryd.prog 49=some ⟨1,8,[.fz (.nilf)],.func,false,false,[]⟩:=by kernel_rfl
@[go_sem] theorem zGH:zas Tryd.prog 50=some ⟨3,56,[.full [],.full [],.fz (.i .i64 0)],(.struct [(0,24),(1,42),(2,3)]),true,false,[(.slice 9),(.slice 3),(.int .i64)]⟩:=by kernel_rfl
@[go_sem] theorem zGI:zas Tryd.prog 51=some ⟨3,56,[.full [],.full [],.fz (.i .i64 0)],(.struct [(0,24),(1,42),(2,3)]),true,false,[(.slice 9),(.slice 3),(.int .i64)]⟩:=by kernel_rfl
@[go_sem] theorem zGJ:zas Tryd.prog 52=some ⟨1,8,[.fz (.nilf)],.func,false,false,[]⟩:=by kernel_rfl
@[go_sem] theorem zGK:zas Tryd.prog 53=some ⟨1,8,[.fz (.nilf)],.func,false,false,[]⟩:=by kernel_rfl
@[go_sem] theorem zGL:zas Tryd.prog 54=some ⟨1,8,[.fz (.nilf)],.func,false,false,[]⟩:=by kernel_rfl
@[go_sem] theorem zGM:zas Tryd.prog 55=some ⟨1,8,[.fz (.nilf)],.func,false,false,[]⟩:=by kernel_rfl
@[go_sem] theorem zGN:zas Tryd.prog 56=some ⟨1,8,[.fz (.nilf)],.func,false,false,[]⟩:=by kernel_rfl
@[go_sem] theorem zGO:zas Tryd.prog 57=some ⟨1,8,[.fz (.nilf)],.func,false,false,[]⟩:=by kernel_rfl
@[go_sem] theorem zGP:zas Tryd.prog 58=some ⟨1,8,[.fz (.nilf)],.func,false,false,[]⟩:=by kernel_rfl
@[go_sem] theorem zGQ:zas Tryd.prog 59=some ⟨1,8,[.fz (.nilf)],.func,false,false,[]⟩:=by kernel_rfl
@[go_sem] theorem zGR:zas Tryd.prog 60=some ⟨1,8,[.fz (.nilf)],.func,false,false,[]⟩:=by kernel_rfl
@[go_sem] theorem zGS:zas Tryd.prog 61=some ⟨1,8,[.fz (.nilf)],.func,false,false,[]⟩:=by kernel_rfl
@[go_sem] theorem zGT:zas Tryd.prog 62=some ⟨1,8,[.fz (.nilf)],.func,false,false,[]⟩:=by kernel_rfl
@[go_sem] theorem zGU:zas Tryd.prog 63=some ⟨2,32,[.fz (.s []),.fz (.s [])],(.struct [(0,9),(1,9)]),true,true,[.str,.str]⟩:=by kernel_rfl
@[go_sem] theorem zGV:zas Tryd.prog 64=some ⟨2,32,[.fz (.s []),.fz (.s [])],(.struct [(0,9),(1,9)]),true,true,[.str,.str]⟩:=by kernel_rfl
@[go_sem] theorem zGW:zas Tryd.prog 65=some ⟨1,8,[.fz (.nilf)],.func,false,false,[]⟩:=by kernel_rfl
@[go_sem] theorem zGX:zas Tryd.prog 66=some ⟨1,8,[.fz (.nilf)],.func,false,false,[]⟩:=by kernel_rfl
@[go_sem] theorem zGY:zas Tryd.prog 67=some ⟨1,8,[.fz (.nilf)],.func,false,false,[]⟩:=by kernel_rfl
@[go_sem] theorem zGZ:zas Tryd.prog 68=some ⟨1,8,[.fz (.nilf)],.func,false,false,[]⟩:=by kernel_rfl
@[go_sem] theorem zG0:zas Tryd.prog 70=some ⟨1,8,[.fz (.nilf)],.func,false,false,[]⟩:=by kernel_rfl
@[go_sem] theorem zG1:zas Tryd.prog 71=some ⟨1,8,[.fz (.nilf)],.func,false,false,[]⟩:=by kernel_rfl
@[go_sem] theorem zG2:zas Tryd.prog 72=some ⟨1,24,[.full []],(.slice 4),false,false,[]⟩:=by kernel_rfl
@[go_sem] theorem zG3:zas Tryd.prog 73=some ⟨1,8,[.fz (.nilf)],.func,false,false,[]⟩:=by kernel_rfl
@[go_sem] theorem zG4:zas Tryd.prog 74=some ⟨1,8,[.fz (.nilf)],.func,false,false,[]⟩:=by kernel_rfl
@[go_sem] theorem zG5:zas Tryd.prog 75=some ⟨1,8,[.fz (.nilf)],.func,false,false,[]⟩:=by kernel_rfl
@[go_sem] theorem zG6:zas Tryd.prog 76=some ⟨1,8,[.fz (.nilf)],.func,false,false,[]⟩:=by kernel_rfl
@[go_sem] theorem zG7:zas Tryd.prog 77=some ⟨1,8,[.fz (.nilf)],.func,false,false,[]⟩:=by kernel_rfl
@[go_sem] theorem zG8:zas Tryd.prog 78=some ⟨5,80,[.fz (.i .i64 0),.fz (.s []),.full [],.full [],.fz (.i .i64 0)],(.struct [(0,35),(4,3)]),true,false,[(.struct [(0,3),(1,9),(2,24),(3,33)]),(.int .i64)]⟩:=by kernel_rfl
@[go_sem] theorem zG9:zas Tryd.prog 79=some ⟨5,80,[.fz (.i .i64 0),.fz (.s []),.full [],.full [],.fz (.i .i64 0)],(.struct [(0,35),(4,3)]),true,false,[(.struct [(0,3),(1,9),(2,24),(3,33)]),(.int .i64)]⟩:=by kernel_rfl
@[go_sem] theorem zHa:zas Tryd.prog 80=some ⟨1,24,[.full []],(.slice 79),false,false,[]⟩:=by kernel_rfl
@[go_sem] theorem zHb:zas Tryd.prog 81=some ⟨1,8,[.fz (.nilf)],.func,false,false,[]⟩:=by kernel_rfl
@[go_sem] theorem zHc:zas Tryd.prog 82=some ⟨1,8,[.fz (.nilf)],.func,false,false,[]⟩:=by kernel_rfl
@[go_sem] theorem zHd:zas Tryd.prog 83=some ⟨1,8,[.fz (.nilf)],.func,false,false,[]⟩:=by kernel_rfl
@[go_sem] theorem zHe:zas Tryd.prog 84=some ⟨1,8,[.fz (.nilf)],.func,false,false,[]⟩:=by kernel_rfl
@[go_sem] theorem zHf:zas Tryd.prog 85=some ⟨1,8,[.fz (.nilf)],.func,false,false,[]⟩:=by kernel_rfl
@[go_sem] theorem zHg:zas Tryd.prog 86=some ⟨1,8,[.fz (.nilf)],.func,false,false,[]⟩:=by kernel_rfl
@[go_sem] theorem zHh:zas Tryd.prog 87=some ⟨1,8,[.fz (.nilf)],.func,false,false,[]⟩:=by kernel_rfl
@[go_sem] theorem zHi:zas Tryd.prog 88=some ⟨1,8,[.fz (.nilf)],.func,false,false,[]⟩:=by kernel_rfl
@[go_sem] theorem zHj:zas Tryd.prog 89=some ⟨1,8,[.fz (.nilf)],.func,false,false,[]⟩:=by kernel_rfl
@[go_sem] theorem zHk:zas Tryd.prog 90=some ⟨1,8,[.fz (.nilf)],.func,false,false,[]⟩:=by kernel_rfl
@[go_sem] theorem zHl:zas Tryd.prog 91=some ⟨1,8,[.fz (.nilf)],.func,false,false,[]⟩:=by kernel_rfl
@[go_sem] theorem zHm:zas Tryd.prog 92=some ⟨1,8,[.fz (.nilf)],.func,false,false,[]⟩:=by kernel_rfl
@[go_sem] theorem zHn:zas Tryd.prog 93=some ⟨1,8,[.fz (.nilf)],.func,false,false,[]⟩:=by kernel_rfl
@[go_sem] theorem zHo:zas Tryd.prog 94=some ⟨1,8,[.fz (.i .u64 0)],(.int .u64),false,false,[]⟩:=by kernel_rfl
@[go_sem] theorem zHp:zas Tryd.prog 95=some ⟨1,8,[.fz (.nilf)],.func,false,false,[]⟩:=by kernel_rfl
@[go_sem] theorem zHq:zas Tryd.prog 96=some ⟨1,8,[.fz (.i .i64 0)],(.int .i64),false,false,[]⟩:=by kernel_rfl
@[go_sem] theorem zHr:zas Tryd.prog 98=some ⟨1,8,[.fz (.nilf)],.func,false,false,[]⟩:=by kernel_rfl
@[go_sem] theorem zHs:zas Tryd.prog 99=some ⟨1,8,[.fz (.nilf)],.func,false,false,[]⟩:=by kernel_rfl
@[go_sem] theorem zE0:zas Tryd.prog 100=some ⟨1,8,[.fz (.nilf)],.func,false,false,[]⟩:=by kernel_rfl
@[go_sem] theorem zE1:zas Tryd.prog 101=some ⟨1,8,[.fz (.nilf)],.func,false,false,[]⟩:=by kernel_rfl
@[go_sem] theorem zE2:zas Tryd.prog 103=some ⟨1,8,[.fz (.nilf)],.func,false,false,[]⟩:=by kernel_rfl
@[go_sem] theorem zE3:zas Tryd.prog 104=some ⟨1,8,[.fz (.nilf)],.func,false,false,[]⟩:=by kernel_rfl
@[go_sem] theorem zE4:zas Tryd.prog 105=some ⟨1,4,[.fz (.i .u32 0)],(.int .u32),false,false,[]⟩:=by kernel_rfl
@[go_sem] theorem zE5:zas Tryd.prog 106=some ⟨1,8,[.fz (.nilf)],.func,false,false,[]⟩:=by kernel_rfl
@[go_sem] theorem zE6:zas Tryd.prog 107=some ⟨1,8,[.fz (.i .u64 0)],(.int .u64),false,false,[]⟩:=by kernel_rfl
@[go_sem] theorem zE7:zas Tryd.prog 108=some ⟨1,8,[.fz (.i .u64 0)],(.int .u64),false,false,[]⟩:=by kernel_rfl
@[go_sem] theorem zE8:zas Tryd.prog 109=some ⟨1,8,[.fz (.nilf)],.func,false,false,[]⟩:=by kernel_rfl
@[go_sem] theorem zE9:zas Tryd.prog 110=some ⟨1,8,[.fz (.nilf)],.func,false,false,[]⟩:=by kernel_rfl
@[go_sem] theorem zFa:zas Tryd.prog 111=some ⟨1,8,[.fz (.nilf)],.func,false,false,[]⟩:=by kernel_rfl
@[go_sem] theorem zFb:zas Tryd.prog 113=some ⟨1,8,[.fz (.nilf)],.func,false,false,[]⟩:=by kernel_rfl
@[go_sem] theorem zFc:zas Tryd.prog 115=some ⟨1,8,[.fz (.nilf)],.func,false,false,[]⟩:=by kernel_rfl
@[go_sem] theorem zFd:zas Tryd.prog 116=some ⟨1,8,[.fz (.nilf)],.func,false,false,[]⟩:=by kernel_rfl
@[go_sem] theorem zFe:zas Tryd.prog 117=some ⟨4,40,[.junk,.junk,.junk,.fz (.s [])],(.struct [(0,17),(1,17),(2,17),(3,9)]),true,false,[.ptr,.ptr,.ptr,.str]⟩:=by kernel_rfl
@[go_sem] theorem zFf:zas Tryd.prog 118=some ⟨4,40,[.junk,.junk,.junk,.fz (.s [])],(.struct [(0,17),(1,17),(2,17),(3,9)]),true,false,[.ptr,.ptr,.ptr,.str]⟩:=by kernel_rfl
@[go_sem] theorem zFg:zas Tryd.prog 120=some ⟨0,0,[],(.struct [(0,119)]),true,false,[.other]⟩:=by kernel_rfl
@[go_sem] theorem zFh:zas Tryd.prog 121=some ⟨0,0,[],(.struct [(0,119)]),true,false,[.other]⟩:=by kernel_rfl
@[go_sem] theorem zFi:zas Tryd.prog 122=some ⟨1,8,[.fz (.nilf)],.func,false,false,[]⟩:=by kernel_rfl
@[go_sem] theorem zFj:zas Tryd.prog 123=some ⟨1,1,[.fz (.i .u8 0)],(.int .u8),false,false,[]⟩:=by kernel_rfl
@[go_sem] theorem zFk:zas Tryd.prog 124=some ⟨1,1,[.fz (.i .u8 0)],(.int .u8),false,false,[]⟩:=by kernel_rfl
@[go_sem] theorem zFl:zas Tryd.prog 125=some ⟨1,8,[.fz (.nilf)],.func,false,false,[]⟩:=by kernel_rfl
@[go_sem] theorem zFm:zas Tryd.prog 127=some ⟨1,4,[.fz (.i .i32 0)],(.int .i32),false,false,[]⟩:=by kernel_rfl
@[go_sem] theorem zFn:zas Tryd.prog 128=some ⟨1,4,[.fz (.i .i32 0)],(.int .i32),false,false,[]⟩:=by kernel_rfl
@[go_sem] theorem zFo:zas Tryd.prog 129=some ⟨11,48,[.fz (.i .u64 0),.fz (.i .u64 0),.fz (.i .u32 0),.fz (.i .u8 0),.fz (.i .u8 0),.fz (.i .u8 0),.fz (.i .u8 0),.fz (.nilf),.junk,.fz (.i .i32 0),.fz (.i .i32 0)],(.struct [(0,12),(1,12),(2,105),(3,123),(4,5),(5,5),(6,124),(7,125),(8,126),(9,127),(10,128)]),true,false,[(.int .u64),(.int .u64),(.int .u32),(.int .u8),(.int .u8),(.int .u8),(.int .u8),.func,.ptr,(.int .i32),(.int .i32)]⟩:=by kernel_rfl
@[go_sem] theorem zFp:zas Tryd.prog 130=some ⟨11,48,[.fz (.i .u64 0),.fz (.i .u64 0),.fz (.i .u32 0),.fz (.i .u8 0),.fz (.i .u8 0),.fz (.i .u8 0),.fz (.i .u8 0),.fz (.nilf),.junk,.fz (.i .i32 0),.fz (.i .i32 0)],(.struct [(0,12),(1,12),(2,105),(3,123),(4,5),(5,5),(6,124),(7,125),(8,126),(9,127),(10,128)]),true,false,[(.int .u64),(.int .u64),(.int .u32),(.int .u8),(.int .u8),(.int .u8),(.int .u8),.func,.ptr,(.int .i32),(.int .i32)]⟩:=by kernel_rfl
theorem ok3:zat Tryd.prog 3:=Tryd.call3
theorem ok4:zat Tryd.prog 4:=Tryd.call4
theorem ok5:zat Tryd.prog 5:=Tryd.call5
theorem ok6:zat Tryd.prog 6:=Tryd.call6
theorem ok7:zat Tryd.prog 7:=Tryd.call7
theorem ok8:zat Tryd.prog 8:=Tryd.call8
theorem ok9:zat Tryd.prog 9:=Tryd.call9
theorem zCu:zat Tryd.prog 10:=Tryd.call10
theorem zCv:zat Tryd.prog 11:=Tryd.call11
theorem zCw:zat Tryd.prog 12:=Tryd.call12
theorem zCx:zat Tryd.prog 13:=Tryd.call13
theorem zCy:zat Tryd.prog 14:=Tryd.call14
theorem zCz:zat Tryd.prog 15:=Tryd.call15
theorem zCA:zat Tryd.prog 16:=Tryd.call16
theorem zCB:zat Tryd.prog 17:=Tryd.call17
theorem zCC:zat Tryd.prog 18:=Tryd.call18
theorem zCD:zat Tryd.prog 19:=Tryd.call19
theorem zCE:zat Tryd.prog 20:=Tryd.call20
theorem zCF:zat Tryd.prog 21:=Tryd.call21
theorem zy3:zat Tryd.prog 22:=Tryd.call22
theorem zAY:zat Tryd.prog 23:=Tryd.call23
theorem zCG:zat Tryd.prog 24:=Tryd.call24
theorem zCH:zat Tryd.prog 25:=Tryd.call25
theorem zCI:zat Tryd.prog 26:=Tryd.call26
theorem zAZ:zat Tryd.prog 27:=Tryd.call27
theorem zy4:zat Tryd.prog 28:=Tryd.call28
theorem zy5:zat Tryd.prog 29:=Tryd.call29
theorem zCJ:zat Tryd.prog 30:=Tryd.call30
theorem zCK:zat Tryd.prog 31:=Tryd.call31
theorem zCL:zat Tryd.prog 32:=Tryd.call32
theorem zCM:zat Tryd.prog 33:=Tryd.call33
theorem zA0:zat Tryd.prog 34:=Tryd.call34
theorem zCN:zat Tryd.prog 35:=Tryd.call35
theorem zA1:zat Tryd.prog 36:=Tryd.call36
theorem zEB:zat Tryd.prog 37:=Tryd.call37
theorem zCO:zat Tryd.prog 38:=Tryd.call38
theorem zCP:zat Tryd.prog 39:=Tryd.call39
theorem zCQ:zat Tryd.prog 40:=Tryd.call40
theorem zCR:zat Tryd.prog 41:=Tryd.call41
theorem zA2:zat Tryd.prog 42:=Tryd.call42
theorem zA3:zat Tryd.prog 43:=Tryd.call43
theorem zCS:zat Tryd.prog 44:=Tryd.call44
theorem zCT:zat Tryd.prog 45:=Tryd.call45
theorem zy6:zat Tryd.prog 46:=Tryd.call46
theorem zCU:zat Tryd.prog 47:=Tryd.call47
theorem zEC:zat Tryd.prog 48:=Tryd.call48
theorem zCV:zat Tryd.prog 49:=Tryd.call49
theorem zCW:zat Tryd.prog 50:=Tryd.call50
theorem zCX:zat Tryd.prog 51:=Tryd.call51
theorem zCY:zat Tryd.prog 52:=Tryd.call52
theorem zCZ:zat Tryd.prog 53:=Tryd.call53
theorem zC0:zat Tryd.prog 54:=Tryd.call54
theorem zC1:zat Tryd.prog 55:=Tryd.call55
theorem zC2:zat Tryd.prog 56:=Tryd.call56
theorem zvM:zat Tryd.prog 57:=Tryd.call57
theorem zC3:zat Tryd.prog 76:=Tryd.call76
end Go.Proofs.YtmconmiemdinkaaDoor
