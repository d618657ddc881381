import Derived.Test.YtdlioodgfopmfaaDoorProg
import Derived.Test.YtdlioodgfopmfaaDoorA2
import Derived.KernelRfl
namespace Go.Proofs.YtdlioodgfopmfaaDoor
open Go Go.Abs Go.Proofs
theorem hm : Tryd.prog.follows .mixedOrders = true := by kernel_rfl
@[go_sem] theorem ti1 : tiOf Tryd.prog 1 = some ⟨1, 8, [.fz (.nilf)], .func, false, false, []⟩ := by kernel_rfl
@[go_sem] theorem ti2 : tiOf Tryd.prog 2 = some ⟨1, 8, [.fz (.i .i64 0)], (.int .i64), false, false, []⟩ := by kernel_rfl
@[go_sem] theorem ti3 : tiOf Tryd.prog 3 = some ⟨1, 8, [.fz (.i .i64 0)], (.int .i64), false, false, []⟩ := by kernel_rfl
@[go_sem] theorem ti4 : tiOf Tryd.prog 4 = some ⟨1, 1, [.fz (.b false)], .bool, false, false, []⟩ := by kernel_rfl
@[go_sem] theorem ti5 : tiOf Tryd.prog 5 = some ⟨1, 1, [.fz (.i .u8 0)], (.int .u8), false, false, []⟩ := by kernel_rfl
@[go_sem] theorem ti6 : tiOf Tryd.prog 6 = some ⟨1, 1, [.fz (.i .u8 0)], (.int .u8), false, false, []⟩ := by kernel_rfl
@[go_sem] theorem ti7 : tiOf Tryd.prog 7 = some ⟨4, 24, [.fz (.i .i64 0), .fz (.i .i64 0), .fz (.b false), .fz (.i .u8 0)], (.struct [(0, 2), (1, 3), (2, 4), (3, 6)]), true, true, [(.int .i64), (.int .i64), .bool, (.int .u8)]⟩ := by kernel_rfl
@[go_sem] theorem ti8 : tiOf Tryd.prog 8 = some ⟨4, 24, [.fz (.i .i64 0), .fz (.i .i64 0), .fz (.b false), .fz (.i .u8 0)], (.struct [(0, 2), (1, 3), (2, 4), (3, 6)]), true, true, [(.int .i64), (.int .i64), .bool, (.int .u8)]⟩ := by kernel_rfl
@[go_sem] theorem ti9 : tiOf Tryd.prog 9 = some ⟨1, 16, [.fz (.s [])], .str, false, false, []⟩ := by kernel_rfl
@[go_sem] theorem ti10 : tiOf Tryd.prog 10 = some ⟨1, 16, [.fz (.s [])], .str, false, false, []⟩ := by kernel_rfl
@[go_sem] theorem ti11 : tiOf Tryd.prog 11 = some ⟨1, 16, [.fz (.s [])], .str, false, false, []⟩ := by kernel_rfl
@[go_sem] theorem ti12 : tiOf Tryd.prog 12 = some ⟨1, 8, [.fz (.i .u64 0)], (.int .u64), false, false, []⟩ := by kernel_rfl
@[go_sem] theorem ti13 : tiOf Tryd.prog 13 = some ⟨2, 24, [.fz (.s []), .fz (.i .u64 0)], (.struct [(0, 9), (1, 12)]), true, false, [.str, (.int .u64)]⟩ := by kernel_rfl
@[go_sem] theorem ti14 : tiOf Tryd.prog 14 = some ⟨2, 24, [.fz (.s []), .fz (.i .u64 0)], (.struct [(0, 9), (1, 12)]), true, false, [.str, (.int .u64)]⟩ := by kernel_rfl
@[go_sem] theorem ti18 : tiOf Tryd.prog 18 = some ⟨1, 8, [.junk], (.struct [(0, 17)]), true, false, [.ptr]⟩ := by kernel_rfl
@[go_sem] theorem ti19 : tiOf Tryd.prog 19 = some ⟨1, 8, [.junk], (.struct [(0, 17)]), true, false, [.ptr]⟩ := by kernel_rfl
@[go_sem] theorem ti21 : tiOf Tryd.prog 21 = some ⟨1, 4, [.fz (.i .i32 0)], (.int .i32), false, false, []⟩ := by kernel_rfl
@[go_sem] theorem ti22 : tiOf Tryd.prog 22 = some ⟨1, 24, [.full []], (.slice 25), false, false, []⟩ := by kernel_rfl
@[go_sem] theorem ti23 : tiOf Tryd.prog 23 = some ⟨1, 24, [.full []], (.slice 9), false, false, []⟩ := by kernel_rfl
@[go_sem] theorem ti24 : tiOf Tryd.prog 24 = some ⟨4, 72, [.fz (.i .i64 0), .fz (.s []), .full [], .full []], (.struct [(0, 3), (1, 9), (2, 23), (3, 22)]), true, false, [(.int .i64), .str, (.slice 9), (.slice 25)]⟩ := by kernel_rfl
@[go_sem] theorem ti25 : tiOf Tryd.prog 25 = some ⟨4, 72, [.fz (.i .i64 0), .fz (.s []), .full [], .full []], (.struct [(0, 3), (1, 9), (2, 23), (3, 22)]), true, false, [(.int .i64), .str, (.slice 9), (.slice 25)]⟩ := by kernel_rfl
@[go_sem] theorem ti26 : tiOf Tryd.prog 26 = some ⟨1, 24, [.full []], (.slice 28), false, false, []⟩ := by kernel_rfl
@[go_sem] theorem ti27 : tiOf Tryd.prog 27 = some ⟨5, 64, [.fz (.i .i64 0), .fz (.i .i64 0), .fz (.i .i64 0), .fz (.s []), .full []], (.struct [(0, 3), (1, 3), (2, 3), (3, 9), (4, 26)]), true, false, [(.int .i64), (.int .i64), (.int .i64), .str, (.slice 28)]⟩ := by kernel_rfl
@[go_sem] theorem ti28 : tiOf Tryd.prog 28 = some ⟨5, 64, [.fz (.i .i64 0), .fz (.i .i64 0), .fz (.i .i64 0), .fz (.s []), .full []], (.struct [(0, 3), (1, 3), (2, 3), (3, 9), (4, 26)]), true, false, [(.int .i64), (.int .i64), (.int .i64), .str, (.slice 28)]⟩ := by kernel_rfl
@[go_sem] theorem ti29 : tiOf Tryd.prog 29 = some ⟨1, 8, [.fz (.nilf)], .func, false, false, []⟩ := by kernel_rfl
@[go_sem] theorem ti30 : tiOf Tryd.prog 30 = some ⟨2, 16, [.fz (.i .i64 0), .fz (.i .i64 0)], (.struct [(0, 3), (1, 3)]), true, true, [(.int .i64), (.int .i64)]⟩ := by kernel_rfl
@[go_sem] theorem ti31 : tiOf Tryd.prog 31 = some ⟨2, 16, [.fz (.i .i64 0), .fz (.i .i64 0)], (.struct [(0, 3), (1, 3)]), true, true, [(.int .i64), (.int .i64)]⟩ := by kernel_rfl
@[go_sem] theorem ti33 : tiOf Tryd.prog 33 = some ⟨1, 8, [.fz (.nilf)], .func, false, false, []⟩ := by kernel_rfl
@[go_sem] theorem ti34 : tiOf Tryd.prog 34 = some ⟨1, 8, [.fz (.nilf)], .func, false, false, []⟩ := by kernel_rfl
@[go_sem] theorem ti35 : tiOf Tryd.prog 35 = some ⟨1, 8, [.fz (.nilf)], .func, false, false, []⟩ := by kernel_rfl
@[go_sem] theorem ti36 : tiOf Tryd.prog 36 = some ⟨1, 8, [.fz (.nilf)], .func, false, false, []⟩ := by kernel_rfl
@[go_sem] theorem ti37 : tiOf Tryd.prog 37 = some ⟨1, 8, [.fz (.nilf)], .func, false, false, []⟩ := by kernel_rfl
@[go_sem] theorem ti38 : tiOf Tryd.prog 38 = some ⟨1, 8, [.fz (.nilf)], .func, false, false, []⟩ := by kernel_rfl
@[go_sem] theorem ti40 : tiOf Tryd.prog 40 = some ⟨1, 8, [.fz (.nilf)], .func, false, false, []⟩ := by kernel_rfl
@[go_sem] theorem ti41 : tiOf Tryd.prog 41 = some ⟨1, 8, [.fz (.nilf)], .func, false, false, []⟩ := by kernel_rfl
@[go_sem] theorem ti42 : tiOf Tryd.prog 42 = some ⟨1, 8, [.fz (.nilf)], .func, false, false, []⟩ := by kernel_rfl
@[go_sem] theorem ti43 : tiOf Tryd.prog 43 = some ⟨1, 24, [.full []], (.slice 105), false, false, []⟩ := by kernel_rfl
@[go_sem] theorem ti44 : tiOf Tryd.prog 44 = some ⟨1, 24, [.full []], (.slice 109), false, false, []⟩ := by kernel_rfl
@[go_sem] theorem ti45 : tiOf Tryd.prog 45 = some ⟨3, 56, [.fz (.i .i64 0), .full [], .full []], (.struct [(0, 3), (1, 43), (2, 44)]), true, false, [(.int .i64), (.slice 105), (.slice 109)]⟩ := by kernel_rfl
@[go_sem] theorem ti46 : tiOf Tryd.prog 46 = some ⟨3, 56, [.fz (.i .i64 0), .full [], .full []], (.struct [(0, 3), (1, 43), (2, 44)]), true, false, [(.int .i64), (.slice 105), (.slice 109)]⟩ := by kernel_rfl
@[go_sem] theorem ti47 : tiOf Tryd.prog 47 = some ⟨1, 8, [.fz (.nilf)], .func, false, false, []⟩ := by kernel_rfl
@[go_sem] theorem ti48 : tiOf Tryd.prog 48 = some ⟨1, 8, [.fz (.nilf)], .func, false, false, []⟩ := by kernel_rfl
@[go_sem] theorem ti50 : tiOf Tryd.prog 50 = some ⟨1, 8, [.fz (.nilf)], .func, false, false, []⟩ := by kernel_rfl
@[go_sem] theorem ti51 : tiOf Tryd.prog 51 = some ⟨1, 8, [.fz (.nilf)], .func, false, false, []⟩ := by kernel_rfl
@[go_sem] theorem ti52 : tiOf Tryd.prog 52 = some ⟨1, 24, [.full []], (.slice 3), false, false, []⟩ := by kernel_rfl
@[go_sem] theorem ti54 : tiOf Tryd.prog 54 = some ⟨1, 8, [.fz (.nilf)], .func, false, false, []⟩ := by kernel_rfl
@[go_sem] theorem ti55 : tiOf Tryd.prog 55 = some ⟨1, 8, [.fz (.nilf)], .func, false, false, []⟩ := by kernel_rfl
@[go_sem] theorem ti56 : tiOf Tryd.prog 56 = some ⟨1, 8, [.fz (.nilf)], .func, false, false, []⟩ := by kernel_rfl
@[go_sem] theorem ti57 : tiOf Tryd.prog 57 = some ⟨1, 8, [.fz (.nilf)], .func, false, false, []⟩ := by kernel_rfl
@[go_sem] theorem ti58 : tiOf Tryd.prog 58 = some ⟨1, 8, [.fz (.nilf)], .func, false, false, []⟩ := by kernel_rfl
@[go_sem] theorem ti59 : tiOf Tryd.prog 59 = some ⟨1, 8, [.fz (.nilf)], .func, false, false, []⟩ := by kernel_rfl
@[go_sem] theorem ti60 : tiOf Tryd.prog 60 = some ⟨1, 8, [.fz (.nilf)], .func, false, false, []⟩ := by kernel_rfl
@[go_sem] theorem ti61 : tiOf Tryd.prog 61 = some ⟨1, 8, [.fz (.nilf)], .func, false, false, []⟩ := by kernel_rfl
@[go_sem] theorem ti62 : tiOf Tryd.prog 62 = some ⟨1, 8, [.fz (.nilf)], .func, false, false, []⟩ := by kernel_rfl
@[go_sem] theorem ti63 : tiOf Tryd.prog 63 = some ⟨1, 8, [.fz (.nilf)], .func, false, false, []⟩ := by kernel_rfl
@[go_sem] theorem ti64 : tiOf Tryd.prog 64 = some ⟨1, 8, [.fz (.nilf)], .func, false, false, []⟩ := by kernel_rfl
@[go_sem] theorem ti66 : tiOf Tryd.prog 66 = some ⟨2, 16, [.fz (.i .i64 0), .fz (.i .i64 0)], (.struct [(0, 3), (1, 3)]), true, true, [(.int .i64), (.int .i64)]⟩ := by kernel_rfl
@[go_sem] theorem ti67 : tiOf Tryd.prog 67 = some ⟨2, 16, [.fz (.i .i64 0), .fz (.i .i64 0)], (.struct [(0, 3), (1, 3)]), true, true, [(.int .i64), (.int .i64)]⟩ := by kernel_rfl
@[go_sem] theorem ti69 : tiOf Tryd.prog 69 = some ⟨1, 8, [.fz (.nilf)], .func, false, false, []⟩ := by kernel_rfl
@[go_sem] theorem ti70 : tiOf Tryd.prog 70 = some ⟨1, 24, [.full []], (.slice 4), false, false, []⟩ := by kernel_rfl
@[go_sem] theorem ti71 : tiOf Tryd.prog 71 = some ⟨1, 24, [.full []], (.slice 23), false, false, []⟩ := by kernel_rfl
@[go_sem] theorem ti72 : tiOf Tryd.prog 72 = some ⟨4, 80, [.full [], .full [], .full [], .fz (.i .i64 0)], (.struct [(0, 22), (1, 70), (2, 71), (3, 3)]), true, false, [(.slice 25), (.slice 4), (.slice 23), (.int .i64)]⟩ := by kernel_rfl
@[go_sem] theorem ti73 : tiOf Tryd.prog 73 = some ⟨4, 80, [.full [], .full [], .full [], .fz (.i .i64 0)], (.struct [(0, 22), (1, 70), (2, 71), (3, 3)]), true, false, [(.slice 25), (.slice 4), (.slice 23), (.int .i64)]⟩ := by kernel_rfl
@[go_sem] theorem ti74 : tiOf Tryd.prog 74 = some ⟨1, 8, [.fz (.nilf)], .func, false, false, []⟩ := by kernel_rfl
@[go_sem] theorem ti75 : tiOf Tryd.prog 75 = some ⟨1, 8, [.fz (.nilf)], .func, false, false, []⟩ := by kernel_rfl
@[go_sem] theorem ti76 : tiOf Tryd.prog 76 = some ⟨1, 8, [.fz (.nilf)], .func, false, false, []⟩ := by kernel_rfl
@[go_sem] theorem ti77 : tiOf Tryd.prog 77 = some ⟨1, 8, [.fz (.nilf)], .func, false, false, []⟩ := by kernel_rfl
@[go_sem] theorem ti78 : tiOf Tryd.prog 78 = some ⟨1, 8, [.fz (.nilf)], .func, false, false, []⟩ := by kernel_rfl
@[go_sem] theorem ti79 : tiOf Tryd.prog 79 = some ⟨1, 8, [.fz (.nilf)], .func, false, false, []⟩ := by kernel_rfl
@[go_sem] theorem ti80 : tiOf Tryd.prog 80 = some ⟨1, 8, [.fz (.nilf)], .func, false, false, []⟩ := by kernel_rfl
@[go_sem] theorem ti82 : tiOf Tryd.prog 82 = some ⟨1, 8, [.fz (.nilf)], .func, false, false, []⟩ := by kernel_rfl
@[go_sem] theorem ti83 : tiOf Tryd.prog 83 = some ⟨1, 8, [.fz (.nilf)], .func, false, false, []⟩ := by kernel_rfl
@[go_sem] theorem ti84 : tiOf Tryd.prog 84 = some ⟨1, 8, [.fz (.nilf)], .func, false, false, []⟩ := by kernel_rfl
@[go_sem] theorem ti85 : tiOf Tryd.prog 85 = some ⟨1, 24, [.full []], (.slice 124), false, false, []⟩ := by kernel_rfl
@[go_sem] theorem ti86 : tiOf Tryd.prog 86 = some ⟨1, 24, [.full []], (.slice 124), false, false, []⟩ := by kernel_rfl
@[go_sem] theorem ti87 : tiOf Tryd.prog 87 = some ⟨1, 8, [.fz (.nilf)], .func, false, false, []⟩ := by kernel_rfl
@[go_sem] theorem ti88 : tiOf Tryd.prog 88 = some ⟨1, 8, [.fz (.nilf)], .func, false, false, []⟩ := by kernel_rfl
@[go_sem] theorem ti89 : tiOf Tryd.prog 89 = some ⟨1, 8, [.fz (.nilf)], .func, false, false, []⟩ := by kernel_rfl
@[go_sem] theorem ti90 : tiOf Tryd.prog 90 = some ⟨1, 8, [.fz (.nilf)], .func, false, false, []⟩ := by kernel_rfl
@[go_sem] theorem ti91 : tiOf Tryd.prog 91 = some ⟨1, 8, [.fz (.nilf)], .func, false, false, []⟩ := by kernel_rfl
@[go_sem] theorem ti93 : tiOf Tryd.prog 93 = some ⟨1, 8, [.fz (.nilf)], .func, false, false, []⟩ := by kernel_rfl
@[go_sem] theorem ti94 : tiOf Tryd.prog 94 = some ⟨1, 8, [.fz (.nilf)], .func, false, false, []⟩ := by kernel_rfl
@[go_sem] theorem ti95 : tiOf Tryd.prog 95 = some ⟨1, 8, [.fz (.nilf)], .func, false, false, []⟩ := by kernel_rfl
@[go_sem] theorem ti96 : tiOf Tryd.prog 96 = some ⟨1, 8, [.fz (.nilf)], .func, false, false, []⟩ := by kernel_rfl
@[go_sem] theorem ti98 : tiOf Tryd.prog 98 = some ⟨1, 8, [.fz (.nilf)], .func, false, false, []⟩ := by kernel_rfl
@[go_sem] theorem ti100 : tiOf Tryd.prog 100 = some ⟨1, 8, [.fz (.nilf)], .func, false, false, []⟩ := by kernel_rfl
@[go_sem] theorem ti101 : tiOf Tryd.prog 101 = some ⟨1, 8, [.fz (.nilf)], .func, false, false, []⟩ := by kernel_rfl
@[go_sem] theorem ti102 : tiOf Tryd.prog 102 = some ⟨1, 8, [.fz (.nilf)], .func, false, false, []⟩ := by kernel_rfl
@[go_sem] theorem ti103 : tiOf Tryd.prog 103 = some ⟨1, 8, [.fz (.nilf)], .func, false, false, []⟩ := by kernel_rfl
@[go_sem] theorem ti104 : tiOf Tryd.prog 104 = some ⟨2, 24, [.fz (.s []), .fz (.i .i64 0)], (.struct [(0, 9), (1, 3)]), true, true, [.str, (.int .i64)]⟩ := by kernel_rfl
@[go_sem] theorem ti105 : tiOf Tryd.prog 105 = some ⟨2, 24, [.fz (.s []), .fz (.i .i64 0)], (.struct [(0, 9), (1, 3)]), true, true, [.str, (.int .i64)]⟩ := by kernel_rfl
@[go_sem] theorem ti106 : tiOf Tryd.prog 106 = some ⟨1, 8, [.fz (.nilf)], .func, false, false, []⟩ := by kernel_rfl
@[go_sem] theorem ti107 : tiOf Tryd.prog 107 = some ⟨1, 24, [.full []], (.slice 52), false, false, []⟩ := by kernel_rfl
@[go_sem] theorem ti108 : tiOf Tryd.prog 108 = some ⟨3, 48, [.fz (.s []), .fz (.i .i64 0), .full []], (.struct [(0, 9), (1, 3), (2, 107)]), true, false, [.str, (.int .i64), (.slice 52)]⟩ := by kernel_rfl
@[go_sem] theorem ti109 : tiOf Tryd.prog 109 = some ⟨3, 48, [.fz (.s []), .fz (.i .i64 0), .full []], (.struct [(0, 9), (1, 3), (2, 107)]), true, false, [.str, (.int .i64), (.slice 52)]⟩ := by kernel_rfl
@[go_sem] theorem ti110 : tiOf Tryd.prog 110 = some ⟨1, 8, [.fz (.nilf)], .func, false, false, []⟩ := by kernel_rfl
@[go_sem] theorem ti111 : tiOf Tryd.prog 111 = some ⟨1, 8, [.fz (.nilf)], .func, false, false, []⟩ := by kernel_rfl
@[go_sem] theorem ti113 : tiOf Tryd.prog 113 = some ⟨1, 8, [.fz (.nilf)], .func, false, false, []⟩ := by kernel_rfl
@[go_sem] theorem ti114 : tiOf Tryd.prog 114 = some ⟨1, 8, [.fz (.nilf)], .func, false, false, []⟩ := by kernel_rfl
@[go_sem] theorem ti116 : tiOf Tryd.prog 116 = some ⟨1, 8, [.fz (.nilf)], .func, false, false, []⟩ := by kernel_rfl
@[go_sem] theorem ti117 : tiOf Tryd.prog 117 = some ⟨1, 24, [.full []], (.slice 118), false, false, []⟩ := by kernel_rfl
@[go_sem] theorem ti118 : tiOf Tryd.prog 118 = some ⟨2, 24, [.fz (.s []), .fz (.i .i64 0)], (.struct [(0, 9), (1, 3)]), true, true, [.str, (.int .i64)]⟩ := by kernel_rfl
@[go_sem] theorem ti119 : tiOf Tryd.prog 119 = some ⟨1, 8, [.fz (.nilf)], .func, false, false, []⟩ := by kernel_rfl
@[go_sem] theorem ti120 : tiOf Tryd.prog 120 = some ⟨1, 8, [.fz (.nilf)], .func, false, false, []⟩ := by kernel_rfl
@[go_sem] theorem ti121 : tiOf Tryd.prog 121 = some ⟨1, 8, [.fz (.nilf)], .func, false, false, []⟩ := by kernel_rfl
@[go_sem] theorem ti122 : tiOf Tryd.prog 122 = some ⟨1, 8, [.fz (.nilf)], .func, false, false, []⟩ := by kernel_rfl
@[go_sem] theorem ti123 : tiOf Tryd.prog 123 = some ⟨2, 32, [.fz (.s []), .fz (.s [])], (.struct [(0, 9), (1, 9)]), true, true, [.str, .str]⟩ := by kernel_rfl
@[go_sem] theorem ti124 : tiOf Tryd.prog 124 = some ⟨2, 32, [.fz (.s []), .fz (.s [])], (.struct [(0, 9), (1, 9)]), true, true, [.str, .str]⟩ := by kernel_rfl
@[go_sem] theorem ti125 : tiOf Tryd.prog 125 = some ⟨1, 8, [.fz (.nilf)], .func, false, false, []⟩ := by kernel_rfl
@[go_sem] theorem ti126 : tiOf Tryd.prog 126 = some ⟨1, 8, [.fz (.nilf)], .func, false, false, []⟩ := by kernel_rfl
@[go_sem] theorem ti127 : tiOf Tryd.prog 127 = some ⟨1, 8, [.fz (.nilf)], .func, false, false, []⟩ := by kernel_rfl
@[go_sem] theorem ti128 : tiOf Tryd.prog 128 = some ⟨1, 8, [.fz (.nilf)], .func, false, false, []⟩ := by kernel_rfl
@[go_sem] theorem ti129 : tiOf Tryd.prog 129 = some ⟨2, 32, [.fz (.s []), .fz (.s [])], (.struct [(0, 9), (1, 9)]), true, true, [.str, .str]⟩ := by kernel_rfl
@[go_sem] theorem ti130 : tiOf Tryd.prog 130 = some ⟨2, 32, [.fz (.s []), .fz (.s [])], (.struct [(0, 9), (1, 9)]), true, true, [.str, .str]⟩ := by kernel_rfl
@[go_sem] theorem ti131 : tiOf Tryd.prog 131 = some ⟨1, 24, [.full []], (.slice 130), false, false, []⟩ := by kernel_rfl
@[go_sem] theorem ti132 : tiOf Tryd.prog 132 = some ⟨5, 80, [.fz (.i .i64 0), .fz (.s []), .full [], .full [], .fz (.i .i64 0)], (.struct [(0, 25), (4, 3)]), true, false, [(.struct [(0, 3), (1, 9), (2, 23), (3, 22)]), (.int .i64)]⟩ := by kernel_rfl
@[go_sem] theorem ti133 : tiOf Tryd.prog 133 = some ⟨5, 80, [.fz (.i .i64 0), .fz (.s []), .full [], .full [], .fz (.i .i64 0)], (.struct [(0, 25), (4, 3)]), true, false, [(.struct [(0, 3), (1, 9), (2, 23), (3, 22)]), (.int .i64)]⟩ := by kernel_rfl
@[go_sem] theorem ti134 : tiOf Tryd.prog 134 = some ⟨1, 24, [.full []], (.slice 133), false, false, []⟩ := by kernel_rfl
@[go_sem] theorem ti135 : tiOf Tryd.prog 135 = some ⟨1, 8, [.fz (.nilf)], .func, false, false, []⟩ := by kernel_rfl
@[go_sem] theorem ti136 : tiOf Tryd.prog 136 = some ⟨1, 8, [.fz (.nilf)], .func, false, false, []⟩ := by kernel_rfl
@[go_sem] theorem ti137 : tiOf Tryd.prog 137 = some ⟨1, 24, [.full []], (.slice 5), false, false, []⟩ := by kernel_rfl
@[go_sem] theorem ti138 : tiOf Tryd.prog 138 = some ⟨1, 8, [.fz (.nilf)], .func, false, false, []⟩ := by kernel_rfl
@[go_sem] theorem ti139 : tiOf Tryd.prog 139 = some ⟨1, 8, [.fz (.nilf)], .func, false, false, []⟩ := by kernel_rfl
@[go_sem] theorem ti140 : tiOf Tryd.prog 140 = some ⟨1, 8, [.fz (.nilf)], .func, false, false, []⟩ := by kernel_rfl
@[go_sem] theorem ti141 : tiOf Tryd.prog 141 = some ⟨1, 8, [.fz (.nilf)], .func, false, false, []⟩ := by kernel_rfl
@[go_sem] theorem ti142 : tiOf Tryd.prog 142 = some ⟨1, 8, [.fz (.nilf)], .func, false, false, []⟩ := by kernel_rfl
@[go_sem] theorem ti143 : tiOf Tryd.prog 143 = some ⟨1, 8, [.fz (.nilf)], .func, false, false, []⟩ := by kernel_rfl
@[go_sem] theorem ti144 : tiOf Tryd.prog 144 = some ⟨1, 8, [.fz (.nilf)], .func, false, false, []⟩ := by kernel_rfl
@[go_sem] theorem ti145 : tiOf Tryd.prog 145 = some ⟨1, 8, [.fz (.nilf)], .func, false, false, []⟩ := by kernel_rfl
@[go_sem] theorem ti146 : tiOf Tryd.prog 146 = some ⟨1, 8, [.fz (.nilf)], .func, false, false, []⟩ := by kernel_rfl
@[go_sem] theorem ti147 : tiOf Tryd.prog 147 = some ⟨1, 8, [.fz (.i .u64 0)], (.int .u64), false, false, []⟩ := by kernel_rfl
@[go_sem] theorem ti148 : tiOf Tryd.prog 148 = some ⟨1, 8, [.fz (.nilf)], .func, false, false, []⟩ := by kernel_rfl
@[go_sem] theorem ti149 : tiOf Tryd.prog 149 = some ⟨1, 8, [.fz (.nilf)], .func, false, false, []⟩ := by kernel_rfl
@[go_sem] theorem ti150 : tiOf Tryd.prog 150 = some ⟨1, 8, [.fz (.nilf)], .func, false, false, []⟩ := by kernel_rfl
@[go_sem] theorem ti151 : tiOf Tryd.prog 151 = some ⟨1, 8, [.fz (.nilf)], .func, false, false, []⟩ := by kernel_rfl
@[go_sem] theorem ti152 : tiOf Tryd.prog 152 = some ⟨1, 8, [.fz (.nilf)], .func, false, false, []⟩ := by kernel_rfl
@[go_sem] theorem ti153 : tiOf Tryd.prog 153 = some ⟨1, 8, [.fz (.nilf)], .func, false, false, []⟩ := by kernel_rfl
@[go_sem] theorem ti154 : tiOf Tryd.prog 154 = some ⟨1, 8, [.fz (.i .i64 0)], (.int .i64), false, false, []⟩ := by kernel_rfl
@[go_sem] theorem ti156 : tiOf Tryd.prog 156 = some ⟨1, 8, [.fz (.nilf)], .func, false, false, []⟩ := by kernel_rfl
@[go_sem] theorem ti157 : tiOf Tryd.prog 157 = some ⟨1, 8, [.fz (.nilf)], .func, false, false, []⟩ := by kernel_rfl
@[go_sem] theorem ti158 : tiOf Tryd.prog 158 = some ⟨1, 8, [.fz (.nilf)], .func, false, false, []⟩ := by kernel_rfl
@[go_sem] theorem ti159 : tiOf Tryd.prog 159 = some ⟨1, 8, [.fz (.nilf)], .func, false, false, []⟩ := by kernel_rfl
@[go_sem] theorem ti160 : tiOf Tryd.prog 160 = some ⟨1, 8, [.fz (.nilf)], .func, false, false, []⟩ := by kernel_rfl
@[go_sem] theorem ti161 : tiOf Tryd.prog 161 = some ⟨1, 4, [.fz (.i .u32 0)], (.int .u32), false, false, []⟩ := by kernel_rfl
@[go_sem] theorem ti162 : tiOf Tryd.prog 162 = some ⟨1, 8, [.fz (.nilf)], .func, false, false, []⟩ := by kernel_rfl
@[go_sem] theorem ti163 : tiOf Tryd.prog 163 = some ⟨1, 8, [.fz (.i .u64 0)], (.int .u64), false, false, []⟩ := by kernel_rfl
@[go_sem] theorem ti165 : tiOf Tryd.prog 165 = some ⟨1, 8, [.fz (.nilf)], .func, false, false, []⟩ := by kernel_rfl
@[go_sem] theorem ti167 : tiOf Tryd.prog 167 = some ⟨1, 8, [.fz (.nilf)], .func, false, false, []⟩ := by kernel_rfl
@[go_sem] theorem ti168 : tiOf Tryd.prog 168 = some ⟨1, 8, [.fz (.i .u64 0)], (.int .u64), false, false, []⟩ := by kernel_rfl
@[go_sem] theorem ti169 : tiOf Tryd.prog 169 = some ⟨1, 8, [.fz (.nilf)], .func, false, false, []⟩ := by kernel_rfl
@[go_sem] theorem ti170 : tiOf Tryd.prog 170 = some ⟨1, 8, [.fz (.nilf)], .func, false, false, []⟩ := by kernel_rfl
@[go_sem] theorem ti171 : tiOf Tryd.prog 171 = some ⟨1, 8, [.fz (.nilf)], .func, false, false, []⟩ := by kernel_rfl
@[go_sem] theorem ti172 : tiOf Tryd.prog 172 = some ⟨1, 8, [.fz (.nilf)], .func, false, false, []⟩ := by kernel_rfl
@[go_sem] theorem ti173 : tiOf Tryd.prog 173 = some ⟨1, 8, [.fz (.nilf)], .func, false, false, []⟩ := by kernel_rfl
@[go_sem] theorem ti178 : tiOf Tryd.prog 178 = some ⟨1, 8, [.fz (.nilf)], .func, false, false, []⟩ := by kernel_rfl
@[go_sem] theorem ti181 : tiOf Tryd.prog 181 = some ⟨4, 40, [.junk, .junk, .junk, .fz (.s [])], (.struct [(0, 17), (1, 17), (2, 17), (3, 9)]), true, false, [.ptr, .ptr, .ptr, .str]⟩ := by kernel_rfl
@[go_sem] theorem ti182 : tiOf Tryd.prog 182 = some ⟨4, 40, [.junk, .junk, .junk, .fz (.s [])], (.struct [(0, 17), (1, 17), (2, 17), (3, 9)]), true, false, [.ptr, .ptr, .ptr, .str]⟩ := by kernel_rfl
@[go_sem] theorem ti184 : tiOf Tryd.prog 184 = some ⟨0, 0, [], (.struct [(0, 183)]), true, false, [.other]⟩ := by kernel_rfl
@[go_sem] theorem ti185 : tiOf Tryd.prog 185 = some ⟨0, 0, [], (.struct [(0, 183)]), true, false, [.other]⟩ := by kernel_rfl
@[go_sem] theorem ti186 : tiOf Tryd.prog 186 = some ⟨1, 8, [.fz (.nilf)], .func, false, false, []⟩ := by kernel_rfl
@[go_sem] theorem ti187 : tiOf Tryd.prog 187 = some ⟨1, 1, [.fz (.i .u8 0)], (.int .u8), false, false, []⟩ := by kernel_rfl
@[go_sem] theorem ti188 : tiOf Tryd.prog 188 = some ⟨1, 1, [.fz (.i .u8 0)], (.int .u8), false, false, []⟩ := by kernel_rfl
@[go_sem] theorem ti189 : tiOf Tryd.prog 189 = some ⟨1, 8, [.fz (.nilf)], .func, false, false, []⟩ := by kernel_rfl
@[go_sem] theorem ti191 : tiOf Tryd.prog 191 = some ⟨1, 4, [.fz (.i .i32 0)], (.int .i32), false, false, []⟩ := by kernel_rfl
@[go_sem] theorem ti192 : tiOf Tryd.prog 192 = some ⟨1, 4, [.fz (.i .i32 0)], (.int .i32), false, false, []⟩ := by kernel_rfl
@[go_sem] theorem ti193 : tiOf Tryd.prog 193 = some ⟨11, 48, [.fz (.i .u64 0), .fz (.i .u64 0), .fz (.i .u32 0), .fz (.i .u8 0), .fz (.i .u8 0), .fz (.i .u8 0), .fz (.i .u8 0), .fz (.nilf), .junk, .fz (.i .i32 0), .fz (.i .i32 0)], (.struct [(0, 12), (1, 12), (2, 161), (3, 187), (4, 5), (5, 5), (6, 188), (7, 189), (8, 190), (9, 191), (10, 192)]), true, false, [(.int .u64), (.int .u64), (.int .u32), (.int .u8), (.int .u8), (.int .u8), (.int .u8), .func, .ptr, (.int .i32), (.int .i32)]⟩ := by kernel_rfl
@[go_sem] theorem ti194 : tiOf Tryd.prog 194 = some ⟨11, 48, [.fz (.i .u64 0), .fz (.i .u64 0), .fz (.i .u32 0), .fz (.i .u8 0), .fz (.i .u8 0), .fz (.i .u8 0), .fz (.i .u8 0), .fz (.nilf), .junk, .fz (.i .i32 0), .fz (.i .i32 0)], (.struct [(0, 12), (1, 12), (2, 161), (3, 187), (4, 5), (5, 5), (6, 188), (7, 189), (8, 190), (9, 191), (10, 192)]), true, false, [(.int .u64), (.int .u64), (.int .u32), (.int .u8), (.int .u8), (.int .u8), (.int .u8), .func, .ptr, (.int .i32), (.int .i32)]⟩ := by kernel_rfl
theorem ok6 : CallOk Tryd.prog 6 := Tryd.call6
theorem ok7 : CallOk Tryd.prog 7 := Tryd.call7
theorem ok13 : CallOk Tryd.prog 13 := Tryd.call13
theorem ok14 : CallOk Tryd.prog 14 := Tryd.call14
theorem ok15 : CallOk Tryd.prog 15 := Tryd.call15
theorem ok16 : CallOk Tryd.prog 16 := Tryd.call16
theorem ok17 : CallOk Tryd.prog 17 := Tryd.call17
theorem ok19 : CallOk Tryd.prog 19 := Tryd.call19
theorem ok26 : CallOk Tryd.prog 26 := Tryd.call26
theorem ok27 : CallOk Tryd.prog 27 := Tryd.call27
theorem ok32 : CallOk Tryd.prog 32 := Tryd.call32
theorem ok33 : CallOk Tryd.prog 33 := Tryd.call33
theorem ok34 : CallOk Tryd.prog 34 := Tryd.call34
theorem ok35 : CallOk Tryd.prog 35 := Tryd.call35
theorem ok36 : CallOk Tryd.prog 36 := Tryd.call36
theorem ok37 : CallOk Tryd.prog 37 := Tryd.call37
theorem ok38 : CallOk Tryd.prog 38 := Tryd.call38
theorem ok39 : CallOk Tryd.prog 39 := Tryd.call39
theorem ok40 : CallOk Tryd.prog 40 := Tryd.call40
theorem ok41 : CallOk Tryd.prog 41 := Tryd.call41
theorem ok43 : CallOk Tryd.prog 43 := Tryd.call43
theorem ok45 : CallOk Tryd.prog 45 := Tryd.call45
theorem ok46 : CallOk Tryd.prog 46 := Tryd.call46
theorem ok47 : CallOk Tryd.prog 47 := Tryd.call47
theorem ok48 : CallOk Tryd.prog 48 := Tryd.call48
theorem ok49 : CallOk Tryd.prog 49 := Tryd.call49
theorem ok50 : CallOk Tryd.prog 50 := Tryd.call50
theorem ok51 : CallOk Tryd.prog 51 := Tryd.call51
theorem ok52 : CallOk Tryd.prog 52 := Tryd.call52
theorem ok53 : CallOk Tryd.prog 53 := Tryd.call53
theorem ok54 : CallOk Tryd.prog 54 := Tryd.call54
theorem ok56 : CallOk Tryd.prog 56 := Tryd.call56
theorem ok57 : CallOk Tryd.prog 57 := Tryd.call57
theorem ok62 : CallOk Tryd.prog 62 := Tryd.call62
theorem ok63 : CallOk Tryd.prog 63 := Tryd.call63
theorem ok64 : CallOk Tryd.prog 64 := Tryd.call64
theorem ok65 : CallOk Tryd.prog 65 := Tryd.call65
theorem ok66 : CallOk Tryd.prog 66 := Tryd.call66
theorem ok67 : CallOk Tryd.prog 67 := Tryd.call67
theorem ok68 : CallOk Tryd.prog 68 := Tryd.call68
theorem ok69 : CallOk Tryd.prog 69 := Tryd.call69
theorem ok70 : CallOk Tryd.prog 70 := Tryd.call70
theorem ok71 : CallOk Tryd.prog 71 := Tryd.call71
theorem ok72 : CallOk Tryd.prog 72 := Tryd.call72
theorem ok73 : CallOk Tryd.prog 73 := Tryd.call73
theorem ok74 : CallOk Tryd.prog 74 := Tryd.call74
theorem ok75 : CallOk Tryd.prog 75 := Tryd.call75
theorem ok76 : CallOk Tryd.prog 76 := Tryd.call76
theorem ok77 : CallOk Tryd.prog 77 := Tryd.call77
theorem ok78 : CallOk Tryd.prog 78 := Tryd.call78
theorem ok79 : CallOk Tryd.prog 79 := Tryd.call79
theorem ok80 : CallOk Tryd.prog 80 := Tryd.call80
theorem ok81 : CallOk Tryd.prog 81 := Tryd.call81
theorem ok82 : CallOk Tryd.prog 82 := Tryd.call82
theorem ok83 : CallOk Tryd.prog 83 := Tryd.call83
theorem ok84 : CallOk Tryd.prog 84 := Tryd.call84
theorem ok85 : CallOk Tryd.prog 85 := Tryd.call85
theorem ok86 : CallOk Tryd.prog 86 := Tryd.call86
theorem ok87 : CallOk Tryd.prog 87 := Tryd.call87
theorem ok88 : CallOk Tryd.prog 88 := Tryd.call88
theorem ok89 : CallOk Tryd.prog 89 := Tryd.call89
theorem ok90 : CallOk Tryd.prog 90 := Tryd.call90
theorem ok91 : CallOk Tryd.prog 91 := Tryd.call91
theorem ok92 : CallOk Tryd.prog 92 := Tryd.call92
theorem ok94 : CallOk Tryd.prog 94 := Tryd.call94
theorem ok95 : CallOk Tryd.prog 95 := Tryd.call95
theorem ok96 : CallOk Tryd.prog 96 := Tryd.call96
theorem ok97 : CallOk Tryd.prog 97 := Tryd.call97
theorem ok98 : CallOk Tryd.prog 98 := Tryd.call98
theorem ok99 : CallOk Tryd.prog 99 := Tryd.call99
theorem ok100 : CallOk Tryd.prog 100 := Tryd.call100
theorem ok101 : CallOk Tryd.prog 101 := Tryd.call101
theorem ok102 : CallOk Tryd.prog 102 := Tryd.call102
theorem ok103 : CallOk Tryd.prog 103 := Tryd.call103
theorem ok104 : CallOk Tryd.prog 104 := Tryd.call104
theorem ok105 : CallOk Tryd.prog 105 := Tryd.call105
theorem ok106 : CallOk Tryd.prog 106 := Tryd.call106
theorem ok110 : CallOk Tryd.prog 110 := Tryd.call110
theorem ok111 : CallOk Tryd.prog 111 := Tryd.call111
end Go.Proofs.YtdlioodgfopmfaaDoor
