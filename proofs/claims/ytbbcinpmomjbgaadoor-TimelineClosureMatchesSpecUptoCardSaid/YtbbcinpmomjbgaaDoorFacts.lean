import Derived.Test.YtbbcinpmomjbgaaDoorProg
import Derived.Test.YtbbcinpmomjbgaaDoorA2
import Derived.KernelRfl
namespace Go.Proofs.YtbbcinpmomjbgaaDoor
open Go Go.Abs Go.Proofs
theorem hm : Tryd.prog.follows .mixedOrders = true := by kernel_rfl
@[go_sem] theorem ti1 : tiOf Tryd.prog 1 = some ⟨1, 8, [.fz (.nilf)], .func, false, false, []⟩ := by kernel_rfl
@[go_sem] theorem ti2 : tiOf Tryd.prog 2 = some ⟨1, 8, [.fz (.i .i64 0)], (.int .i64), false, false, []⟩ := by kernel_rfl
@[go_sem] theorem ti3 : tiOf Tryd.prog 3 = some ⟨1, 8, [.fz (.i .i64 0)], (.int .i64), false, false, []⟩ := by kernel_rfl
@[go_sem] theorem ti4 : tiOf Tryd.prog 4 = some ⟨1, 1, [.fz (.b false)], .bool, false, false, []⟩ := by kernel_rfl
@[go_sem] theorem ti5 : tiOf Tryd.prog 5 = some ⟨1, 1, [.fz (.i .u8 0)], (.int .u8), false, false, []⟩ := by kernel_rfl
@[go_sem] theorem ti6 : tiOf Tryd.prog 6 = some ⟨1, 1, [.fz (.i .u8 0)], (.int .u8), false, false, []⟩ := by kernel_rfl
@[go_sem] theorem ti7 : tiOf Tryd.prog 7 = some ⟨4, 24, [.fz (.i .i64 0), .fz (.i .i64 0), .fz (.b false), .fz (.i .u8 0)], (.struct [(0, 2), (1, 3), (2, 4), (3, 6)]), true, true, [(.int .i64), (.int .i64), .bool, (.int .u8)]⟩ := by kernel_rfl
@[go_sem] theorem ti8 : tiOf Tryd.prog 8 = some ⟨4, 24, [.fz (.i .i64 0), .fz (.i .i64 0), .fz (.b false), .fz (.i .u8 0)], (.struct [(0, 2), (1, 3), (2, 4), (3, 6)]), true, true, [(.int .i64), (.int .i64), .bool, (.int .u8)]⟩ := by kernel_rfl
@[go_sem] theorem ti9 : tiOf Tryd.prog 9 = some ⟨1, 16, [.fz (.s [])], .str, false, false, []⟩ := by kernel_rfl
@[go_sem] theorem ti10 : tiOf Tryd.prog 10 = some ⟨1, 16, [.fz (.s [])], .str, false, false, []⟩ := by kernel_rfl
@[go_sem] theorem ti11 : tiOf Tryd.prog 11 = some ⟨1, 16, [.fz (.s [])], .str, false, false, []⟩ := by kernel_rfl
@[go_sem] theorem ti12 : tiOf Tryd.prog 12 = some ⟨1, 8, [.fz (.i .u64 0)], (.int .u64), false, false, []⟩ := by kernel_rfl
@[go_sem] theorem ti13 : tiOf Tryd.prog 13 = some ⟨2, 24, [.fz (.s []), .fz (.i .u64 0)], (.struct [(0, 9), (1, 12)]), true, false, [.str, (.int .u64)]⟩ := by kernel_rfl
@[go_sem] theorem ti14 : tiOf Tryd.prog 14 = some ⟨2, 24, [.fz (.s []), .fz (.i .u64 0)], (.struct [(0, 9), (1, 12)]), true, false, [.str, (.int .u64)]⟩ := by kernel_rfl
@[go_sem] theorem ti18 : tiOf Tryd.prog 18 = some ⟨1, 8, [.junk], (.struct [(0, 17)]), true, false, [.ptr]⟩ := by kernel_rfl
@[go_sem] theorem ti19 : tiOf Tryd.prog 19 = some ⟨1, 8, [.junk], (.struct [(0, 17)]), true, false, [.ptr]⟩ := by kernel_rfl
@[go_sem] theorem ti21 : tiOf Tryd.prog 21 = some ⟨1, 4, [.fz (.i .i32 0)], (.int .i32), false, false, []⟩ := by kernel_rfl
@[go_sem] theorem ti22 : tiOf Tryd.prog 22 = some ⟨1, 24, [.full []], (.slice 9), false, false, []⟩ := by kernel_rfl
@[go_sem] theorem ti23 : tiOf Tryd.prog 23 = some ⟨1, 24, [.full []], (.slice 31), false, false, []⟩ := by kernel_rfl
@[go_sem] theorem ti24 : tiOf Tryd.prog 24 = some ⟨2, 16, [.fz (.i .i64 0), .fz (.i .i64 0)], (.struct [(0, 3), (1, 3)]), true, true, [(.int .i64), (.int .i64)]⟩ := by kernel_rfl
@[go_sem] theorem ti25 : tiOf Tryd.prog 25 = some ⟨2, 16, [.fz (.i .i64 0), .fz (.i .i64 0)], (.struct [(0, 3), (1, 3)]), true, true, [(.int .i64), (.int .i64)]⟩ := by kernel_rfl
@[go_sem] theorem ti27 : tiOf Tryd.prog 27 = some ⟨1, 8, [.fz (.nilf)], .func, false, false, []⟩ := by kernel_rfl
@[go_sem] theorem ti28 : tiOf Tryd.prog 28 = some ⟨1, 8, [.fz (.nilf)], .func, false, false, []⟩ := by kernel_rfl
@[go_sem] theorem ti29 : tiOf Tryd.prog 29 = some ⟨1, 8, [.fz (.nilf)], .func, false, false, []⟩ := by kernel_rfl
@[go_sem] theorem ti30 : tiOf Tryd.prog 30 = some ⟨1, 8, [.fz (.nilf)], .func, false, false, []⟩ := by kernel_rfl
@[go_sem] theorem ti31 : tiOf Tryd.prog 31 = some ⟨1, 24, [.full []], (.slice 22), false, false, []⟩ := by kernel_rfl
@[go_sem] theorem ti32 : tiOf Tryd.prog 32 = some ⟨1, 8, [.fz (.nilf)], .func, false, false, []⟩ := by kernel_rfl
@[go_sem] theorem ti33 : tiOf Tryd.prog 33 = some ⟨1, 24, [.full []], (.slice 38), false, false, []⟩ := by kernel_rfl
@[go_sem] theorem ti35 : tiOf Tryd.prog 35 = some ⟨1, 8, [.fz (.nilf)], .func, false, false, []⟩ := by kernel_rfl
@[go_sem] theorem ti36 : tiOf Tryd.prog 36 = some ⟨1, 8, [.fz (.nilf)], .func, false, false, []⟩ := by kernel_rfl
@[go_sem] theorem ti37 : tiOf Tryd.prog 37 = some ⟨3, 24, [.fz (.i .i64 0), .fz (.i .i64 0), .fz (.i .i64 0)], (.struct [(0, 3), (1, 3), (2, 3)]), true, true, [(.int .i64), (.int .i64), (.int .i64)]⟩ := by kernel_rfl
@[go_sem] theorem ti38 : tiOf Tryd.prog 38 = some ⟨3, 24, [.fz (.i .i64 0), .fz (.i .i64 0), .fz (.i .i64 0)], (.struct [(0, 3), (1, 3), (2, 3)]), true, true, [(.int .i64), (.int .i64), (.int .i64)]⟩ := by kernel_rfl
@[go_sem] theorem ti39 : tiOf Tryd.prog 39 = some ⟨1, 8, [.fz (.nilf)], .func, false, false, []⟩ := by kernel_rfl
@[go_sem] theorem ti40 : tiOf Tryd.prog 40 = some ⟨1, 8, [.fz (.nilf)], .func, false, false, []⟩ := by kernel_rfl
@[go_sem] theorem ti41 : tiOf Tryd.prog 41 = some ⟨1, 24, [.full []], (.slice 45), false, false, []⟩ := by kernel_rfl
@[go_sem] theorem ti43 : tiOf Tryd.prog 43 = some ⟨1, 8, [.fz (.nilf)], .func, false, false, []⟩ := by kernel_rfl
@[go_sem] theorem ti44 : tiOf Tryd.prog 44 = some ⟨1, 8, [.fz (.nilf)], .func, false, false, []⟩ := by kernel_rfl
@[go_sem] theorem ti45 : tiOf Tryd.prog 45 = some ⟨1, 24, [.full []], (.slice 3), false, false, []⟩ := by kernel_rfl
@[go_sem] theorem ti46 : tiOf Tryd.prog 46 = some ⟨1, 8, [.fz (.nilf)], .func, false, false, []⟩ := by kernel_rfl
@[go_sem] theorem ti47 : tiOf Tryd.prog 47 = some ⟨1, 8, [.fz (.nilf)], .func, false, false, []⟩ := by kernel_rfl
@[go_sem] theorem ti48 : tiOf Tryd.prog 48 = some ⟨1, 8, [.fz (.nilf)], .func, false, false, []⟩ := by kernel_rfl
@[go_sem] theorem ti49 : tiOf Tryd.prog 49 = some ⟨1, 8, [.fz (.nilf)], .func, false, false, []⟩ := by kernel_rfl
@[go_sem] theorem ti50 : tiOf Tryd.prog 50 = some ⟨1, 8, [.fz (.nilf)], .func, false, false, []⟩ := by kernel_rfl
@[go_sem] theorem ti51 : tiOf Tryd.prog 51 = some ⟨1, 8, [.fz (.nilf)], .func, false, false, []⟩ := by kernel_rfl
@[go_sem] theorem ti52 : tiOf Tryd.prog 52 = some ⟨1, 8, [.fz (.nilf)], .func, false, false, []⟩ := by kernel_rfl
@[go_sem] theorem ti53 : tiOf Tryd.prog 53 = some ⟨1, 8, [.fz (.nilf)], .func, false, false, []⟩ := by kernel_rfl
@[go_sem] theorem ti54 : tiOf Tryd.prog 54 = some ⟨1, 8, [.fz (.nilf)], .func, false, false, []⟩ := by kernel_rfl
@[go_sem] theorem ti55 : tiOf Tryd.prog 55 = some ⟨1, 8, [.fz (.nilf)], .func, false, false, []⟩ := by kernel_rfl
@[go_sem] theorem ti56 : tiOf Tryd.prog 56 = some ⟨1, 8, [.fz (.nilf)], .func, false, false, []⟩ := by kernel_rfl
@[go_sem] theorem ti57 : tiOf Tryd.prog 57 = some ⟨1, 8, [.fz (.nilf)], .func, false, false, []⟩ := by kernel_rfl
@[go_sem] theorem ti58 : tiOf Tryd.prog 58 = some ⟨1, 24, [.full []], (.slice 4), false, false, []⟩ := by kernel_rfl
@[go_sem] theorem ti59 : tiOf Tryd.prog 59 = some ⟨1, 8, [.fz (.nilf)], .func, false, false, []⟩ := by kernel_rfl
@[go_sem] theorem ti60 : tiOf Tryd.prog 60 = some ⟨1, 8, [.fz (.nilf)], .func, false, false, []⟩ := by kernel_rfl
@[go_sem] theorem ti61 : tiOf Tryd.prog 61 = some ⟨1, 24, [.full []], (.slice 58), false, false, []⟩ := by kernel_rfl
@[go_sem] theorem ti62 : tiOf Tryd.prog 62 = some ⟨1, 8, [.fz (.nilf)], .func, false, false, []⟩ := by kernel_rfl
@[go_sem] theorem ti63 : tiOf Tryd.prog 63 = some ⟨1, 8, [.fz (.nilf)], .func, false, false, []⟩ := by kernel_rfl
@[go_sem] theorem ti64 : tiOf Tryd.prog 64 = some ⟨1, 8, [.fz (.nilf)], .func, false, false, []⟩ := by kernel_rfl
@[go_sem] theorem ti65 : tiOf Tryd.prog 65 = some ⟨1, 8, [.fz (.nilf)], .func, false, false, []⟩ := by kernel_rfl
@[go_sem] theorem ti66 : tiOf Tryd.prog 66 = some ⟨4, 40, [.junk, .junk, .junk, .fz (.s [])], (.struct [(0, 17), (1, 17), (2, 17), (3, 9)]), true, false, [.ptr, .ptr, .ptr, .str]⟩ := by kernel_rfl
@[go_sem] theorem ti67 : tiOf Tryd.prog 67 = some ⟨4, 40, [.junk, .junk, .junk, .fz (.s [])], (.struct [(0, 17), (1, 17), (2, 17), (3, 9)]), true, false, [.ptr, .ptr, .ptr, .str]⟩ := by kernel_rfl
@[go_sem] theorem ti69 : tiOf Tryd.prog 69 = some ⟨0, 0, [], (.struct [(0, 68)]), true, false, [.other]⟩ := by kernel_rfl
@[go_sem] theorem ti70 : tiOf Tryd.prog 70 = some ⟨0, 0, [], (.struct [(0, 68)]), true, false, [.other]⟩ := by kernel_rfl
@[go_sem] theorem ti71 : tiOf Tryd.prog 71 = some ⟨1, 8, [.fz (.nilf)], .func, false, false, []⟩ := by kernel_rfl
@[go_sem] theorem ti72 : tiOf Tryd.prog 72 = some ⟨1, 4, [.fz (.i .u32 0)], (.int .u32), false, false, []⟩ := by kernel_rfl
@[go_sem] theorem ti73 : tiOf Tryd.prog 73 = some ⟨1, 1, [.fz (.i .u8 0)], (.int .u8), false, false, []⟩ := by kernel_rfl
@[go_sem] theorem ti74 : tiOf Tryd.prog 74 = some ⟨1, 1, [.fz (.i .u8 0)], (.int .u8), false, false, []⟩ := by kernel_rfl
@[go_sem] theorem ti75 : tiOf Tryd.prog 75 = some ⟨1, 8, [.fz (.nilf)], .func, false, false, []⟩ := by kernel_rfl
@[go_sem] theorem ti77 : tiOf Tryd.prog 77 = some ⟨1, 4, [.fz (.i .i32 0)], (.int .i32), false, false, []⟩ := by kernel_rfl
@[go_sem] theorem ti78 : tiOf Tryd.prog 78 = some ⟨1, 4, [.fz (.i .i32 0)], (.int .i32), false, false, []⟩ := by kernel_rfl
@[go_sem] theorem ti79 : tiOf Tryd.prog 79 = some ⟨11, 48, [.fz (.i .u64 0), .fz (.i .u64 0), .fz (.i .u32 0), .fz (.i .u8 0), .fz (.i .u8 0), .fz (.i .u8 0), .fz (.i .u8 0), .fz (.nilf), .junk, .fz (.i .i32 0), .fz (.i .i32 0)], (.struct [(0, 12), (1, 12), (2, 72), (3, 73), (4, 5), (5, 5), (6, 74), (7, 75), (8, 76), (9, 77), (10, 78)]), true, false, [(.int .u64), (.int .u64), (.int .u32), (.int .u8), (.int .u8), (.int .u8), (.int .u8), .func, .ptr, (.int .i32), (.int .i32)]⟩ := by kernel_rfl
@[go_sem] theorem ti80 : tiOf Tryd.prog 80 = some ⟨11, 48, [.fz (.i .u64 0), .fz (.i .u64 0), .fz (.i .u32 0), .fz (.i .u8 0), .fz (.i .u8 0), .fz (.i .u8 0), .fz (.i .u8 0), .fz (.nilf), .junk, .fz (.i .i32 0), .fz (.i .i32 0)], (.struct [(0, 12), (1, 12), (2, 72), (3, 73), (4, 5), (5, 5), (6, 74), (7, 75), (8, 76), (9, 77), (10, 78)]), true, false, [(.int .u64), (.int .u64), (.int .u32), (.int .u8), (.int .u8), (.int .u8), (.int .u8), .func, .ptr, (.int .i32), (.int .i32)]⟩ := by kernel_rfl
theorem ok2 : CallOk Tryd.prog 2 := Tryd.call2
theorem ok3 : CallOk Tryd.prog 3 := Tryd.call3
theorem ok4 : CallOk Tryd.prog 4 := Tryd.call4
theorem ok5 : CallOk Tryd.prog 5 := Tryd.call5
theorem ok6 : CallOk Tryd.prog 6 := Tryd.call6
theorem ok7 : CallOk Tryd.prog 7 := Tryd.call7
theorem ok8 : CallOk Tryd.prog 8 := Tryd.call8
theorem ok9 : CallOk Tryd.prog 9 := Tryd.call9
theorem ok10 : CallOk Tryd.prog 10 := Tryd.call10
theorem ok11 : CallOk Tryd.prog 11 := Tryd.call11
theorem ok12 : CallOk Tryd.prog 12 := Tryd.call12
theorem ok13 : CallOk Tryd.prog 13 := Tryd.call13
theorem ok14 : CallOk Tryd.prog 14 := Tryd.call14
theorem ok15 : CallOk Tryd.prog 15 := Tryd.call15
theorem ok16 : CallOk Tryd.prog 16 := Tryd.call16
theorem ok17 : CallOk Tryd.prog 17 := Tryd.call17
theorem ok18 : CallOk Tryd.prog 18 := Tryd.call18
theorem ok19 : CallOk Tryd.prog 19 := Tryd.call19
theorem ok20 : CallOk Tryd.prog 20 := Tryd.call20
theorem ok21 : CallOk Tryd.prog 21 := Tryd.call21
theorem ok22 : CallOk Tryd.prog 22 := Tryd.call22
theorem ok23 : CallOk Tryd.prog 23 := Tryd.call23
theorem ok24 : CallOk Tryd.prog 24 := Tryd.call24
theorem ok25 : CallOk Tryd.prog 25 := Tryd.call25
theorem ok26 : CallOk Tryd.prog 26 := Tryd.call26
theorem ok27 : CallOk Tryd.prog 27 := Tryd.call27
theorem ok28 : CallOk Tryd.prog 28 := Tryd.call28
theorem ok29 : CallOk Tryd.prog 29 := Tryd.call29
theorem ok30 : CallOk Tryd.prog 30 := Tryd.call30
theorem ok31 : CallOk Tryd.prog 31 := Tryd.call31
theorem ok32 : CallOk Tryd.prog 32 := Tryd.call32
theorem ok33 : CallOk Tryd.prog 33 := Tryd.call33
theorem ok34 : CallOk Tryd.prog 34 := Tryd.call34
theorem ok35 : CallOk Tryd.prog 35 := Tryd.call35
theorem ok36 : CallOk Tryd.prog 36 := Tryd.call36
theorem ok37 : CallOk Tryd.prog 37 := Tryd.call37
theorem ok38 : CallOk Tryd.prog 38 := Tryd.call38
theorem ok39 : CallOk Tryd.prog 39 := Tryd.call39
theorem ok40 : CallOk Tryd.prog 40 := Tryd.call40
theorem ok41 : CallOk Tryd.prog 41 := Tryd.call41
theorem ok61 : CallOk Tryd.prog 61 := Tryd.call61
end Go.Proofs.YtbbcinpmomjbgaaDoor
