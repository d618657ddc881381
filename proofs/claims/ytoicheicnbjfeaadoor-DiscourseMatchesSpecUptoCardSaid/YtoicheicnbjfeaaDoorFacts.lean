import Derived.Test.YtoicheicnbjfeaaDoorProg
import Derived.Test.YtoicheicnbjfeaaDoorA2
import Derived.KernelRfl
namespace Go.Proofs.YtoicheicnbjfeaaDoor
open Go Go.Abs Go.Proofs
theorem hm : Tryd.prog.follows .mixedOrders = true := by kernel_rfl
@[go_sem] theorem ti1 : tiOf Tryd.prog 1 = some ⟨1, 8, [.fz (.nilf)], .func, false, false, []⟩ := by kernel_rfl
@[go_sem] theorem ti2 : tiOf Tryd.prog 2 = some ⟨1, 8, [.fz (.i .i64 0)], (.int .i64), false, false, []⟩ := by kernel_rfl
@[go_sem] theorem ti3 : tiOf Tryd.prog 3 = some ⟨1, 8, [.fz (.i .i64 0)], (.int .i64), false, false, []⟩ := by kernel_rfl
@[go_sem] theorem ti4 : tiOf Tryd.prog 4 = some ⟨1, 1, [.fz (.b false)], .bool, false, false, []⟩ := by kernel_rfl
@[go_sem] theorem ti5 : tiOf Tryd.prog 5 = some ⟨1, 1, [.fz (.i .u8 0)], (.int .u8), false, false, []⟩ := by kernel_rfl
@[go_sem] theorem ti6 : tiOf Tryd.prog 6 = some ⟨1, 1, [.fz (.i .u8 0)], (.int .u8), false, false, []⟩ := by kernel_rfl
@[go_sem] theorem ti7 : tiOf Tryd.prog 7 = some ⟨4, 24, [.fz (.i .i64 0), .fz (.i .i64 0), .fz (.b false), .fz (.i .u8 0)], (.struct [(0, 2), (1, 3), (2, 4), (3, 6)]), true, true, [(.int .i64), (.int .i64), .bool, (.int .u8)]⟩ := by kernel_rfl
@[go_sem] theorem ti8 : tiOf Tryd.prog 8 = some ⟨4, 24, [.fz (.i .i64 0), .fz (.i .i64 0), .fz (.b false), .fz (.i .u8 0)], (.struct [(0, 2), (1, 3), (2, 4), (3, 6)]), true, true, [(.int .i64), (.int .i64), .bool, (.int .u8)]⟩ := by kernel_rfl
@[go_sem] theorem ti9 : tiOf Tryd.prog 9 = some ⟨1, 16, [.fz (.s [])], .str, false, false, []⟩ := by kernel_rfl
@[go_sem] theorem ti10 : tiOf Tryd.prog 10 = some ⟨1, 16, [.fz (.s [])], .str, false, false, []⟩ := by kernel_rfl
@[go_sem] theorem ti11 : tiOf Tryd.prog 11 = some ⟨1, 16, [.fz (.s [])], .str, false, false, []⟩ := by kernel_rfl
@[go_sem] theorem ti12 : tiOf Tryd.prog 12 = some ⟨1, 8, [.fz (.i .u64 0)], (.int .u64), false, false, []⟩ := by kernel_rfl
@[go_sem] theorem ti13 : tiOf Tryd.prog 13 = some ⟨2, 24, [.fz (.s []), .fz (.i .u64 0)], (.struct [(0, 9), (1, 12)]), true, false, [.str, (.int .u64)]⟩ := by kernel_rfl
@[go_sem] theorem ti14 : tiOf Tryd.prog 14 = some ⟨2, 24, [.fz (.s []), .fz (.i .u64 0)], (.struct [(0, 9), (1, 12)]), true, false, [.str, (.int .u64)]⟩ := by kernel_rfl
@[go_sem] theorem ti18 : tiOf Tryd.prog 18 = some ⟨1, 8, [.junk], (.struct [(0, 17)]), true, false, [.ptr]⟩ := by kernel_rfl
@[go_sem] theorem ti19 : tiOf Tryd.prog 19 = some ⟨1, 8, [.junk], (.struct [(0, 17)]), true, false, [.ptr]⟩ := by kernel_rfl
@[go_sem] theorem ti21 : tiOf Tryd.prog 21 = some ⟨1, 4, [.fz (.i .i32 0)], (.int .i32), false, false, []⟩ := by kernel_rfl
@[go_sem] theorem ti22 : tiOf Tryd.prog 22 = some ⟨1, 24, [.full []], (.slice 9), false, false, []⟩ := by kernel_rfl
@[go_sem] theorem ti23 : tiOf Tryd.prog 23 = some ⟨1, 24, [.full []], (.slice 105), false, false, []⟩ := by kernel_rfl
@[go_sem] theorem ti24 : tiOf Tryd.prog 24 = some ⟨2, 48, [.full [], .full []], (.struct [(0, 22), (1, 23)]), true, false, [(.slice 9), (.slice 105)]⟩ := by kernel_rfl
@[go_sem] theorem ti25 : tiOf Tryd.prog 25 = some ⟨2, 48, [.full [], .full []], (.struct [(0, 22), (1, 23)]), true, false, [(.slice 9), (.slice 105)]⟩ := by kernel_rfl
@[go_sem] theorem ti26 : tiOf Tryd.prog 26 = some ⟨1, 24, [.full []], (.slice 25), false, false, []⟩ := by kernel_rfl
@[go_sem] theorem ti27 : tiOf Tryd.prog 27 = some ⟨2, 16, [.fz (.i .i64 0), .fz (.i .i64 0)], (.struct [(0, 3), (1, 3)]), true, true, [(.int .i64), (.int .i64)]⟩ := by kernel_rfl
@[go_sem] theorem ti28 : tiOf Tryd.prog 28 = some ⟨2, 16, [.fz (.i .i64 0), .fz (.i .i64 0)], (.struct [(0, 3), (1, 3)]), true, true, [(.int .i64), (.int .i64)]⟩ := by kernel_rfl
@[go_sem] theorem ti30 : tiOf Tryd.prog 30 = some ⟨1, 8, [.fz (.nilf)], .func, false, false, []⟩ := by kernel_rfl
@[go_sem] theorem ti31 : tiOf Tryd.prog 31 = some ⟨1, 8, [.fz (.nilf)], .func, false, false, []⟩ := by kernel_rfl
@[go_sem] theorem ti32 : tiOf Tryd.prog 32 = some ⟨1, 8, [.fz (.nilf)], .func, false, false, []⟩ := by kernel_rfl
@[go_sem] theorem ti34 : tiOf Tryd.prog 34 = some ⟨1, 8, [.fz (.nilf)], .func, false, false, []⟩ := by kernel_rfl
@[go_sem] theorem ti35 : tiOf Tryd.prog 35 = some ⟨1, 8, [.fz (.nilf)], .func, false, false, []⟩ := by kernel_rfl
@[go_sem] theorem ti36 : tiOf Tryd.prog 36 = some ⟨1, 8, [.fz (.nilf)], .func, false, false, []⟩ := by kernel_rfl
@[go_sem] theorem ti37 : tiOf Tryd.prog 37 = some ⟨1, 8, [.fz (.nilf)], .func, false, false, []⟩ := by kernel_rfl
@[go_sem] theorem ti38 : tiOf Tryd.prog 38 = some ⟨1, 24, [.full []], (.slice 50), false, false, []⟩ := by kernel_rfl
@[go_sem] theorem ti39 : tiOf Tryd.prog 39 = some ⟨1, 24, [.full []], (.slice 132), false, false, []⟩ := by kernel_rfl
@[go_sem] theorem ti40 : tiOf Tryd.prog 40 = some ⟨3, 72, [.full [], .full [], .full []], (.struct [(0, 38), (1, 39), (2, 22)]), true, false, [(.slice 50), (.slice 132), (.slice 9)]⟩ := by kernel_rfl
@[go_sem] theorem ti41 : tiOf Tryd.prog 41 = some ⟨3, 72, [.full [], .full [], .full []], (.struct [(0, 38), (1, 39), (2, 22)]), true, false, [(.slice 50), (.slice 132), (.slice 9)]⟩ := by kernel_rfl
@[go_sem] theorem ti43 : tiOf Tryd.prog 43 = some ⟨1, 8, [.fz (.nilf)], .func, false, false, []⟩ := by kernel_rfl
@[go_sem] theorem ti44 : tiOf Tryd.prog 44 = some ⟨1, 8, [.fz (.nilf)], .func, false, false, []⟩ := by kernel_rfl
@[go_sem] theorem ti45 : tiOf Tryd.prog 45 = some ⟨1, 8, [.fz (.nilf)], .func, false, false, []⟩ := by kernel_rfl
@[go_sem] theorem ti46 : tiOf Tryd.prog 46 = some ⟨1, 24, [.full []], (.slice 48), false, false, []⟩ := by kernel_rfl
@[go_sem] theorem ti47 : tiOf Tryd.prog 47 = some ⟨4, 72, [.fz (.i .i64 0), .fz (.s []), .full [], .full []], (.struct [(0, 3), (1, 9), (2, 22), (3, 46)]), true, false, [(.int .i64), .str, (.slice 9), (.slice 48)]⟩ := by kernel_rfl
@[go_sem] theorem ti48 : tiOf Tryd.prog 48 = some ⟨4, 72, [.fz (.i .i64 0), .fz (.s []), .full [], .full []], (.struct [(0, 3), (1, 9), (2, 22), (3, 46)]), true, false, [(.int .i64), .str, (.slice 9), (.slice 48)]⟩ := by kernel_rfl
@[go_sem] theorem ti49 : tiOf Tryd.prog 49 = some ⟨5, 88, [.fz (.s []), .fz (.i .i64 0), .fz (.s []), .full [], .full []], (.struct [(0, 9), (1, 48)]), true, false, [.str, (.struct [(0, 3), (1, 9), (2, 22), (3, 46)])]⟩ := by kernel_rfl
@[go_sem] theorem ti50 : tiOf Tryd.prog 50 = some ⟨5, 88, [.fz (.s []), .fz (.i .i64 0), .fz (.s []), .full [], .full []], (.struct [(0, 9), (1, 48)]), true, false, [.str, (.struct [(0, 3), (1, 9), (2, 22), (3, 46)])]⟩ := by kernel_rfl
@[go_sem] theorem ti51 : tiOf Tryd.prog 51 = some ⟨1, 24, [.full []], (.slice 56), false, false, []⟩ := by kernel_rfl
@[go_sem] theorem ti53 : tiOf Tryd.prog 53 = some ⟨1, 8, [.fz (.nilf)], .func, false, false, []⟩ := by kernel_rfl
@[go_sem] theorem ti54 : tiOf Tryd.prog 54 = some ⟨1, 8, [.fz (.nilf)], .func, false, false, []⟩ := by kernel_rfl
@[go_sem] theorem ti55 : tiOf Tryd.prog 55 = some ⟨1, 24, [.full []], (.slice 3), false, false, []⟩ := by kernel_rfl
@[go_sem] theorem ti56 : tiOf Tryd.prog 56 = some ⟨1, 24, [.full []], (.slice 3), false, false, []⟩ := by kernel_rfl
@[go_sem] theorem ti57 : tiOf Tryd.prog 57 = some ⟨1, 8, [.fz (.nilf)], .func, false, false, []⟩ := by kernel_rfl
@[go_sem] theorem ti58 : tiOf Tryd.prog 58 = some ⟨1, 24, [.full []], (.slice 138), false, false, []⟩ := by kernel_rfl
@[go_sem] theorem ti59 : tiOf Tryd.prog 59 = some ⟨1, 24, [.full []], (.slice 141), false, false, []⟩ := by kernel_rfl
@[go_sem] theorem ti60 : tiOf Tryd.prog 60 = some ⟨3, 56, [.fz (.i .i64 0), .full [], .full []], (.struct [(0, 3), (1, 58), (2, 59)]), true, false, [(.int .i64), (.slice 138), (.slice 141)]⟩ := by kernel_rfl
@[go_sem] theorem ti61 : tiOf Tryd.prog 61 = some ⟨3, 56, [.fz (.i .i64 0), .full [], .full []], (.struct [(0, 3), (1, 58), (2, 59)]), true, false, [(.int .i64), (.slice 138), (.slice 141)]⟩ := by kernel_rfl
@[go_sem] theorem ti63 : tiOf Tryd.prog 63 = some ⟨1, 8, [.fz (.nilf)], .func, false, false, []⟩ := by kernel_rfl
@[go_sem] theorem ti64 : tiOf Tryd.prog 64 = some ⟨1, 8, [.fz (.nilf)], .func, false, false, []⟩ := by kernel_rfl
@[go_sem] theorem ti65 : tiOf Tryd.prog 65 = some ⟨1, 8, [.fz (.nilf)], .func, false, false, []⟩ := by kernel_rfl
@[go_sem] theorem ti66 : tiOf Tryd.prog 66 = some ⟨1, 8, [.fz (.nilf)], .func, false, false, []⟩ := by kernel_rfl
@[go_sem] theorem ti67 : tiOf Tryd.prog 67 = some ⟨1, 8, [.fz (.nilf)], .func, false, false, []⟩ := by kernel_rfl
@[go_sem] theorem ti68 : tiOf Tryd.prog 68 = some ⟨1, 24, [.full []], (.slice 4), false, false, []⟩ := by kernel_rfl
@[go_sem] theorem ti69 : tiOf Tryd.prog 69 = some ⟨1, 8, [.fz (.nilf)], .func, false, false, []⟩ := by kernel_rfl
@[go_sem] theorem ti70 : tiOf Tryd.prog 70 = some ⟨1, 8, [.fz (.nilf)], .func, false, false, []⟩ := by kernel_rfl
@[go_sem] theorem ti71 : tiOf Tryd.prog 71 = some ⟨1, 8, [.fz (.nilf)], .func, false, false, []⟩ := by kernel_rfl
@[go_sem] theorem ti72 : tiOf Tryd.prog 72 = some ⟨1, 8, [.fz (.nilf)], .func, false, false, []⟩ := by kernel_rfl
@[go_sem] theorem ti73 : tiOf Tryd.prog 73 = some ⟨1, 8, [.fz (.nilf)], .func, false, false, []⟩ := by kernel_rfl
@[go_sem] theorem ti74 : tiOf Tryd.prog 74 = some ⟨1, 8, [.fz (.nilf)], .func, false, false, []⟩ := by kernel_rfl
@[go_sem] theorem ti76 : tiOf Tryd.prog 76 = some ⟨1, 8, [.fz (.nilf)], .func, false, false, []⟩ := by kernel_rfl
@[go_sem] theorem ti77 : tiOf Tryd.prog 77 = some ⟨1, 8, [.fz (.nilf)], .func, false, false, []⟩ := by kernel_rfl
@[go_sem] theorem ti78 : tiOf Tryd.prog 78 = some ⟨1, 8, [.fz (.nilf)], .func, false, false, []⟩ := by kernel_rfl
@[go_sem] theorem ti79 : tiOf Tryd.prog 79 = some ⟨1, 8, [.fz (.nilf)], .func, false, false, []⟩ := by kernel_rfl
@[go_sem] theorem ti80 : tiOf Tryd.prog 80 = some ⟨1, 8, [.fz (.nilf)], .func, false, false, []⟩ := by kernel_rfl
@[go_sem] theorem ti82 : tiOf Tryd.prog 82 = some ⟨1, 8, [.fz (.nilf)], .func, false, false, []⟩ := by kernel_rfl
@[go_sem] theorem ti83 : tiOf Tryd.prog 83 = some ⟨1, 8, [.fz (.nilf)], .func, false, false, []⟩ := by kernel_rfl
@[go_sem] theorem ti84 : tiOf Tryd.prog 84 = some ⟨1, 8, [.fz (.nilf)], .func, false, false, []⟩ := by kernel_rfl
@[go_sem] theorem ti85 : tiOf Tryd.prog 85 = some ⟨1, 8, [.fz (.nilf)], .func, false, false, []⟩ := by kernel_rfl
@[go_sem] theorem ti86 : tiOf Tryd.prog 86 = some ⟨1, 8, [.fz (.nilf)], .func, false, false, []⟩ := by kernel_rfl
@[go_sem] theorem ti87 : tiOf Tryd.prog 87 = some ⟨1, 8, [.fz (.nilf)], .func, false, false, []⟩ := by kernel_rfl
@[go_sem] theorem ti88 : tiOf Tryd.prog 88 = some ⟨1, 8, [.fz (.nilf)], .func, false, false, []⟩ := by kernel_rfl
@[go_sem] theorem ti89 : tiOf Tryd.prog 89 = some ⟨1, 8, [.fz (.nilf)], .func, false, false, []⟩ := by kernel_rfl
@[go_sem] theorem ti90 : tiOf Tryd.prog 90 = some ⟨1, 8, [.fz (.nilf)], .func, false, false, []⟩ := by kernel_rfl
@[go_sem] theorem ti91 : tiOf Tryd.prog 91 = some ⟨1, 8, [.fz (.nilf)], .func, false, false, []⟩ := by kernel_rfl
@[go_sem] theorem ti92 : tiOf Tryd.prog 92 = some ⟨1, 8, [.fz (.nilf)], .func, false, false, []⟩ := by kernel_rfl
@[go_sem] theorem ti93 : tiOf Tryd.prog 93 = some ⟨1, 8, [.fz (.nilf)], .func, false, false, []⟩ := by kernel_rfl
@[go_sem] theorem ti94 : tiOf Tryd.prog 94 = some ⟨1, 8, [.fz (.nilf)], .func, false, false, []⟩ := by kernel_rfl
@[go_sem] theorem ti95 : tiOf Tryd.prog 95 = some ⟨1, 8, [.fz (.nilf)], .func, false, false, []⟩ := by kernel_rfl
@[go_sem] theorem ti97 : tiOf Tryd.prog 97 = some ⟨1, 8, [.fz (.nilf)], .func, false, false, []⟩ := by kernel_rfl
@[go_sem] theorem ti98 : tiOf Tryd.prog 98 = some ⟨2, 48, [.full [], .full []], (.struct [(0, 22), (1, 23)]), true, false, [(.slice 9), (.slice 105)]⟩ := by kernel_rfl
@[go_sem] theorem ti99 : tiOf Tryd.prog 99 = some ⟨2, 48, [.full [], .full []], (.struct [(0, 22), (1, 23)]), true, false, [(.slice 9), (.slice 105)]⟩ := by kernel_rfl
@[go_sem] theorem ti100 : tiOf Tryd.prog 100 = some ⟨1, 8, [.fz (.nilf)], .func, false, false, []⟩ := by kernel_rfl
@[go_sem] theorem ti101 : tiOf Tryd.prog 101 = some ⟨1, 8, [.fz (.nilf)], .func, false, false, []⟩ := by kernel_rfl
@[go_sem] theorem ti102 : tiOf Tryd.prog 102 = some ⟨1, 8, [.fz (.nilf)], .func, false, false, []⟩ := by kernel_rfl
@[go_sem] theorem ti103 : tiOf Tryd.prog 103 = some ⟨1, 8, [.fz (.nilf)], .func, false, false, []⟩ := by kernel_rfl
@[go_sem] theorem ti104 : tiOf Tryd.prog 104 = some ⟨7, 120, [.fz (.i .i64 0), .fz (.s []), .fz (.i .i64 0), .fz (.s []), .full [], .full [], .full []], (.struct [(0, 3), (1, 9), (2, 48), (6, 26)]), true, false, [(.int .i64), .str, (.struct [(0, 3), (1, 9), (2, 22), (3, 46)]), (.slice 25)]⟩ := by kernel_rfl
@[go_sem] theorem ti105 : tiOf Tryd.prog 105 = some ⟨7, 120, [.fz (.i .i64 0), .fz (.s []), .fz (.i .i64 0), .fz (.s []), .full [], .full [], .full []], (.struct [(0, 3), (1, 9), (2, 48), (6, 26)]), true, false, [(.int .i64), .str, (.struct [(0, 3), (1, 9), (2, 22), (3, 46)]), (.slice 25)]⟩ := by kernel_rfl
@[go_sem] theorem ti106 : tiOf Tryd.prog 106 = some ⟨1, 8, [.fz (.nilf)], .func, false, false, []⟩ := by kernel_rfl
@[go_sem] theorem ti110 : tiOf Tryd.prog 110 = some ⟨1, 8, [.fz (.nilf)], .func, false, false, []⟩ := by kernel_rfl
@[go_sem] theorem ti111 : tiOf Tryd.prog 111 = some ⟨1, 8, [.fz (.nilf)], .func, false, false, []⟩ := by kernel_rfl
@[go_sem] theorem ti112 : tiOf Tryd.prog 112 = some ⟨1, 8, [.fz (.nilf)], .func, false, false, []⟩ := by kernel_rfl
@[go_sem] theorem ti113 : tiOf Tryd.prog 113 = some ⟨1, 8, [.fz (.nilf)], .func, false, false, []⟩ := by kernel_rfl
@[go_sem] theorem ti114 : tiOf Tryd.prog 114 = some ⟨1, 8, [.fz (.nilf)], .func, false, false, []⟩ := by kernel_rfl
@[go_sem] theorem ti115 : tiOf Tryd.prog 115 = some ⟨1, 8, [.fz (.nilf)], .func, false, false, []⟩ := by kernel_rfl
@[go_sem] theorem ti116 : tiOf Tryd.prog 116 = some ⟨1, 8, [.fz (.nilf)], .func, false, false, []⟩ := by kernel_rfl
@[go_sem] theorem ti117 : tiOf Tryd.prog 117 = some ⟨1, 8, [.fz (.nilf)], .func, false, false, []⟩ := by kernel_rfl
@[go_sem] theorem ti118 : tiOf Tryd.prog 118 = some ⟨1, 8, [.fz (.nilf)], .func, false, false, []⟩ := by kernel_rfl
@[go_sem] theorem ti119 : tiOf Tryd.prog 119 = some ⟨1, 8, [.fz (.nilf)], .func, false, false, []⟩ := by kernel_rfl
@[go_sem] theorem ti120 : tiOf Tryd.prog 120 = some ⟨1, 8, [.fz (.nilf)], .func, false, false, []⟩ := by kernel_rfl
@[go_sem] theorem ti121 : tiOf Tryd.prog 121 = some ⟨1, 24, [.full []], (.slice 124), false, false, []⟩ := by kernel_rfl
@[go_sem] theorem ti122 : tiOf Tryd.prog 122 = some ⟨1, 8, [.fz (.nilf)], .func, false, false, []⟩ := by kernel_rfl
@[go_sem] theorem ti123 : tiOf Tryd.prog 123 = some ⟨3, 56, [.full [], .full [], .fz (.i .i64 0)], (.struct [(0, 22), (1, 55), (2, 3)]), true, false, [(.slice 9), (.slice 3), (.int .i64)]⟩ := by kernel_rfl
@[go_sem] theorem ti124 : tiOf Tryd.prog 124 = some ⟨3, 56, [.full [], .full [], .fz (.i .i64 0)], (.struct [(0, 22), (1, 55), (2, 3)]), true, false, [(.slice 9), (.slice 3), (.int .i64)]⟩ := by kernel_rfl
@[go_sem] theorem ti125 : tiOf Tryd.prog 125 = some ⟨1, 8, [.fz (.nilf)], .func, false, false, []⟩ := by kernel_rfl
@[go_sem] theorem ti126 : tiOf Tryd.prog 126 = some ⟨1, 8, [.fz (.nilf)], .func, false, false, []⟩ := by kernel_rfl
@[go_sem] theorem ti127 : tiOf Tryd.prog 127 = some ⟨1, 8, [.fz (.nilf)], .func, false, false, []⟩ := by kernel_rfl
@[go_sem] theorem ti128 : tiOf Tryd.prog 128 = some ⟨1, 8, [.fz (.nilf)], .func, false, false, []⟩ := by kernel_rfl
@[go_sem] theorem ti129 : tiOf Tryd.prog 129 = some ⟨1, 8, [.fz (.nilf)], .func, false, false, []⟩ := by kernel_rfl
@[go_sem] theorem ti130 : tiOf Tryd.prog 130 = some ⟨1, 8, [.fz (.nilf)], .func, false, false, []⟩ := by kernel_rfl
@[go_sem] theorem ti131 : tiOf Tryd.prog 131 = some ⟨2, 32, [.fz (.s []), .fz (.s [])], (.struct [(0, 9), (1, 9)]), true, true, [.str, .str]⟩ := by kernel_rfl
@[go_sem] theorem ti132 : tiOf Tryd.prog 132 = some ⟨2, 32, [.fz (.s []), .fz (.s [])], (.struct [(0, 9), (1, 9)]), true, true, [.str, .str]⟩ := by kernel_rfl
@[go_sem] theorem ti133 : tiOf Tryd.prog 133 = some ⟨1, 8, [.fz (.nilf)], .func, false, false, []⟩ := by kernel_rfl
@[go_sem] theorem ti134 : tiOf Tryd.prog 134 = some ⟨1, 8, [.fz (.nilf)], .func, false, false, []⟩ := by kernel_rfl
@[go_sem] theorem ti135 : tiOf Tryd.prog 135 = some ⟨1, 8, [.fz (.nilf)], .func, false, false, []⟩ := by kernel_rfl
@[go_sem] theorem ti136 : tiOf Tryd.prog 136 = some ⟨1, 8, [.fz (.nilf)], .func, false, false, []⟩ := by kernel_rfl
@[go_sem] theorem ti137 : tiOf Tryd.prog 137 = some ⟨2, 24, [.fz (.s []), .fz (.i .i64 0)], (.struct [(0, 9), (1, 3)]), true, true, [.str, (.int .i64)]⟩ := by kernel_rfl
@[go_sem] theorem ti138 : tiOf Tryd.prog 138 = some ⟨2, 24, [.fz (.s []), .fz (.i .i64 0)], (.struct [(0, 9), (1, 3)]), true, true, [.str, (.int .i64)]⟩ := by kernel_rfl
@[go_sem] theorem ti139 : tiOf Tryd.prog 139 = some ⟨1, 24, [.full []], (.slice 55), false, false, []⟩ := by kernel_rfl
@[go_sem] theorem ti140 : tiOf Tryd.prog 140 = some ⟨3, 48, [.fz (.s []), .fz (.i .i64 0), .full []], (.struct [(0, 9), (1, 3), (2, 139)]), true, false, [.str, (.int .i64), (.slice 55)]⟩ := by kernel_rfl
@[go_sem] theorem ti141 : tiOf Tryd.prog 141 = some ⟨3, 48, [.fz (.s []), .fz (.i .i64 0), .full []], (.struct [(0, 9), (1, 3), (2, 139)]), true, false, [.str, (.int .i64), (.slice 55)]⟩ := by kernel_rfl
@[go_sem] theorem ti142 : tiOf Tryd.prog 142 = some ⟨1, 8, [.fz (.nilf)], .func, false, false, []⟩ := by kernel_rfl
@[go_sem] theorem ti144 : tiOf Tryd.prog 144 = some ⟨1, 8, [.fz (.nilf)], .func, false, false, []⟩ := by kernel_rfl
@[go_sem] theorem ti145 : tiOf Tryd.prog 145 = some ⟨1, 8, [.fz (.nilf)], .func, false, false, []⟩ := by kernel_rfl
@[go_sem] theorem ti147 : tiOf Tryd.prog 147 = some ⟨1, 8, [.fz (.nilf)], .func, false, false, []⟩ := by kernel_rfl
@[go_sem] theorem ti148 : tiOf Tryd.prog 148 = some ⟨1, 8, [.fz (.nilf)], .func, false, false, []⟩ := by kernel_rfl
@[go_sem] theorem ti149 : tiOf Tryd.prog 149 = some ⟨1, 8, [.fz (.nilf)], .func, false, false, []⟩ := by kernel_rfl
@[go_sem] theorem ti150 : tiOf Tryd.prog 150 = some ⟨1, 8, [.fz (.nilf)], .func, false, false, []⟩ := by kernel_rfl
@[go_sem] theorem ti151 : tiOf Tryd.prog 151 = some ⟨1, 8, [.fz (.nilf)], .func, false, false, []⟩ := by kernel_rfl
@[go_sem] theorem ti152 : tiOf Tryd.prog 152 = some ⟨1, 8, [.fz (.nilf)], .func, false, false, []⟩ := by kernel_rfl
@[go_sem] theorem ti153 : tiOf Tryd.prog 153 = some ⟨1, 8, [.fz (.nilf)], .func, false, false, []⟩ := by kernel_rfl
@[go_sem] theorem ti154 : tiOf Tryd.prog 154 = some ⟨1, 8, [.fz (.nilf)], .func, false, false, []⟩ := by kernel_rfl
@[go_sem] theorem ti156 : tiOf Tryd.prog 156 = some ⟨1, 8, [.fz (.nilf)], .func, false, false, []⟩ := by kernel_rfl
@[go_sem] theorem ti157 : tiOf Tryd.prog 157 = some ⟨1, 8, [.fz (.nilf)], .func, false, false, []⟩ := by kernel_rfl
@[go_sem] theorem ti158 : tiOf Tryd.prog 158 = some ⟨1, 8, [.fz (.nilf)], .func, false, false, []⟩ := by kernel_rfl
@[go_sem] theorem ti159 : tiOf Tryd.prog 159 = some ⟨1, 8, [.fz (.nilf)], .func, false, false, []⟩ := by kernel_rfl
@[go_sem] theorem ti160 : tiOf Tryd.prog 160 = some ⟨1, 8, [.fz (.nilf)], .func, false, false, []⟩ := by kernel_rfl
@[go_sem] theorem ti161 : tiOf Tryd.prog 161 = some ⟨1, 8, [.fz (.nilf)], .func, false, false, []⟩ := by kernel_rfl
@[go_sem] theorem ti162 : tiOf Tryd.prog 162 = some ⟨1, 8, [.fz (.nilf)], .func, false, false, []⟩ := by kernel_rfl
@[go_sem] theorem ti163 : tiOf Tryd.prog 163 = some ⟨1, 8, [.fz (.nilf)], .func, false, false, []⟩ := by kernel_rfl
@[go_sem] theorem ti164 : tiOf Tryd.prog 164 = some ⟨1, 24, [.full []], (.slice 167), false, false, []⟩ := by kernel_rfl
@[go_sem] theorem ti165 : tiOf Tryd.prog 165 = some ⟨1, 8, [.fz (.nilf)], .func, false, false, []⟩ := by kernel_rfl
@[go_sem] theorem ti166 : tiOf Tryd.prog 166 = some ⟨4, 96, [.full [], .full [], .full [], .full []], (.struct [(0, 23), (1, 22), (2, 25)]), true, false, [(.slice 105), (.slice 9), (.struct [(0, 22), (1, 23)])]⟩ := by kernel_rfl
@[go_sem] theorem ti167 : tiOf Tryd.prog 167 = some ⟨4, 96, [.full [], .full [], .full [], .full []], (.struct [(0, 23), (1, 22), (2, 25)]), true, false, [(.slice 105), (.slice 9), (.struct [(0, 22), (1, 23)])]⟩ := by kernel_rfl
@[go_sem] theorem ti168 : tiOf Tryd.prog 168 = some ⟨1, 8, [.fz (.nilf)], .func, false, false, []⟩ := by kernel_rfl
@[go_sem] theorem ti169 : tiOf Tryd.prog 169 = some ⟨1, 8, [.fz (.nilf)], .func, false, false, []⟩ := by kernel_rfl
@[go_sem] theorem ti170 : tiOf Tryd.prog 170 = some ⟨1, 8, [.fz (.nilf)], .func, false, false, []⟩ := by kernel_rfl
@[go_sem] theorem ti171 : tiOf Tryd.prog 171 = some ⟨1, 8, [.fz (.nilf)], .func, false, false, []⟩ := by kernel_rfl
@[go_sem] theorem ti172 : tiOf Tryd.prog 172 = some ⟨1, 8, [.fz (.nilf)], .func, false, false, []⟩ := by kernel_rfl
@[go_sem] theorem ti173 : tiOf Tryd.prog 173 = some ⟨1, 8, [.fz (.nilf)], .func, false, false, []⟩ := by kernel_rfl
@[go_sem] theorem ti174 : tiOf Tryd.prog 174 = some ⟨1, 8, [.fz (.nilf)], .func, false, false, []⟩ := by kernel_rfl
@[go_sem] theorem ti175 : tiOf Tryd.prog 175 = some ⟨1, 8, [.fz (.nilf)], .func, false, false, []⟩ := by kernel_rfl
@[go_sem] theorem ti176 : tiOf Tryd.prog 176 = some ⟨1, 24, [.full []], (.slice 22), false, false, []⟩ := by kernel_rfl
@[go_sem] theorem ti177 : tiOf Tryd.prog 177 = some ⟨1, 8, [.fz (.nilf)], .func, false, false, []⟩ := by kernel_rfl
@[go_sem] theorem ti178 : tiOf Tryd.prog 178 = some ⟨1, 24, [.full []], (.slice 23), false, false, []⟩ := by kernel_rfl
@[go_sem] theorem ti179 : tiOf Tryd.prog 179 = some ⟨1, 8, [.fz (.nilf)], .func, false, false, []⟩ := by kernel_rfl
@[go_sem] theorem ti180 : tiOf Tryd.prog 180 = some ⟨1, 8, [.fz (.nilf)], .func, false, false, []⟩ := by kernel_rfl
@[go_sem] theorem ti181 : tiOf Tryd.prog 181 = some ⟨1, 8, [.fz (.nilf)], .func, false, false, []⟩ := by kernel_rfl
@[go_sem] theorem ti182 : tiOf Tryd.prog 182 = some ⟨1, 8, [.fz (.nilf)], .func, false, false, []⟩ := by kernel_rfl
@[go_sem] theorem ti183 : tiOf Tryd.prog 183 = some ⟨1, 8, [.fz (.nilf)], .func, false, false, []⟩ := by kernel_rfl
@[go_sem] theorem ti184 : tiOf Tryd.prog 184 = some ⟨1, 8, [.fz (.nilf)], .func, false, false, []⟩ := by kernel_rfl
@[go_sem] theorem ti185 : tiOf Tryd.prog 185 = some ⟨1, 8, [.fz (.nilf)], .func, false, false, []⟩ := by kernel_rfl
@[go_sem] theorem ti186 : tiOf Tryd.prog 186 = some ⟨1, 8, [.fz (.nilf)], .func, false, false, []⟩ := by kernel_rfl
@[go_sem] theorem ti188 : tiOf Tryd.prog 188 = some ⟨1, 8, [.fz (.nilf)], .func, false, false, []⟩ := by kernel_rfl
@[go_sem] theorem ti189 : tiOf Tryd.prog 189 = some ⟨1, 8, [.fz (.nilf)], .func, false, false, []⟩ := by kernel_rfl
@[go_sem] theorem ti190 : tiOf Tryd.prog 190 = some ⟨1, 8, [.fz (.nilf)], .func, false, false, []⟩ := by kernel_rfl
@[go_sem] theorem ti191 : tiOf Tryd.prog 191 = some ⟨1, 8, [.fz (.nilf)], .func, false, false, []⟩ := by kernel_rfl
@[go_sem] theorem ti192 : tiOf Tryd.prog 192 = some ⟨1, 8, [.fz (.nilf)], .func, false, false, []⟩ := by kernel_rfl
@[go_sem] theorem ti193 : tiOf Tryd.prog 193 = some ⟨1, 8, [.fz (.nilf)], .func, false, false, []⟩ := by kernel_rfl
@[go_sem] theorem ti194 : tiOf Tryd.prog 194 = some ⟨1, 8, [.fz (.nilf)], .func, false, false, []⟩ := by kernel_rfl
@[go_sem] theorem ti195 : tiOf Tryd.prog 195 = some ⟨5, 80, [.fz (.i .i64 0), .fz (.s []), .full [], .full [], .fz (.i .i64 0)], (.struct [(0, 48), (4, 3)]), true, false, [(.struct [(0, 3), (1, 9), (2, 22), (3, 46)]), (.int .i64)]⟩ := by kernel_rfl
@[go_sem] theorem ti196 : tiOf Tryd.prog 196 = some ⟨5, 80, [.fz (.i .i64 0), .fz (.s []), .full [], .full [], .fz (.i .i64 0)], (.struct [(0, 48), (4, 3)]), true, false, [(.struct [(0, 3), (1, 9), (2, 22), (3, 46)]), (.int .i64)]⟩ := by kernel_rfl
@[go_sem] theorem ti197 : tiOf Tryd.prog 197 = some ⟨1, 24, [.full []], (.slice 196), false, false, []⟩ := by kernel_rfl
@[go_sem] theorem ti198 : tiOf Tryd.prog 198 = some ⟨1, 8, [.fz (.nilf)], .func, false, false, []⟩ := by kernel_rfl
@[go_sem] theorem ti199 : tiOf Tryd.prog 199 = some ⟨1, 8, [.fz (.nilf)], .func, false, false, []⟩ := by kernel_rfl
@[go_sem] theorem ti200 : tiOf Tryd.prog 200 = some ⟨1, 8, [.fz (.nilf)], .func, false, false, []⟩ := by kernel_rfl
@[go_sem] theorem ti201 : tiOf Tryd.prog 201 = some ⟨2, 24, [.fz (.s []), .fz (.i .i64 0)], (.struct [(0, 9), (1, 3)]), true, true, [.str, (.int .i64)]⟩ := by kernel_rfl
@[go_sem] theorem ti202 : tiOf Tryd.prog 202 = some ⟨1, 24, [.full []], (.slice 201), false, false, []⟩ := by kernel_rfl
@[go_sem] theorem ti203 : tiOf Tryd.prog 203 = some ⟨1, 8, [.fz (.nilf)], .func, false, false, []⟩ := by kernel_rfl
@[go_sem] theorem ti204 : tiOf Tryd.prog 204 = some ⟨1, 8, [.fz (.nilf)], .func, false, false, []⟩ := by kernel_rfl
@[go_sem] theorem ti205 : tiOf Tryd.prog 205 = some ⟨1, 8, [.fz (.nilf)], .func, false, false, []⟩ := by kernel_rfl
@[go_sem] theorem ti206 : tiOf Tryd.prog 206 = some ⟨1, 24, [.full []], (.slice 5), false, false, []⟩ := by kernel_rfl
@[go_sem] theorem ti207 : tiOf Tryd.prog 207 = some ⟨2, 32, [.fz (.s []), .fz (.s [])], (.struct [(0, 9), (1, 9)]), true, true, [.str, .str]⟩ := by kernel_rfl
@[go_sem] theorem ti208 : tiOf Tryd.prog 208 = some ⟨2, 32, [.fz (.s []), .fz (.s [])], (.struct [(0, 9), (1, 9)]), true, true, [.str, .str]⟩ := by kernel_rfl
@[go_sem] theorem ti209 : tiOf Tryd.prog 209 = some ⟨1, 24, [.full []], (.slice 208), false, false, []⟩ := by kernel_rfl
@[go_sem] theorem ti211 : tiOf Tryd.prog 211 = some ⟨1, 8, [.fz (.nilf)], .func, false, false, []⟩ := by kernel_rfl
@[go_sem] theorem ti213 : tiOf Tryd.prog 213 = some ⟨1, 8, [.fz (.nilf)], .func, false, false, []⟩ := by kernel_rfl
@[go_sem] theorem ti214 : tiOf Tryd.prog 214 = some ⟨1, 8, [.fz (.nilf)], .func, false, false, []⟩ := by kernel_rfl
@[go_sem] theorem ti215 : tiOf Tryd.prog 215 = some ⟨1, 8, [.fz (.nilf)], .func, false, false, []⟩ := by kernel_rfl
@[go_sem] theorem ti216 : tiOf Tryd.prog 216 = some ⟨1, 8, [.fz (.nilf)], .func, false, false, []⟩ := by kernel_rfl
@[go_sem] theorem ti217 : tiOf Tryd.prog 217 = some ⟨1, 8, [.fz (.nilf)], .func, false, false, []⟩ := by kernel_rfl
@[go_sem] theorem ti218 : tiOf Tryd.prog 218 = some ⟨1, 8, [.fz (.nilf)], .func, false, false, []⟩ := by kernel_rfl
@[go_sem] theorem ti219 : tiOf Tryd.prog 219 = some ⟨1, 8, [.fz (.nilf)], .func, false, false, []⟩ := by kernel_rfl
@[go_sem] theorem ti220 : tiOf Tryd.prog 220 = some ⟨1, 8, [.fz (.nilf)], .func, false, false, []⟩ := by kernel_rfl
@[go_sem] theorem ti221 : tiOf Tryd.prog 221 = some ⟨1, 8, [.fz (.nilf)], .func, false, false, []⟩ := by kernel_rfl
@[go_sem] theorem ti222 : tiOf Tryd.prog 222 = some ⟨1, 8, [.fz (.nilf)], .func, false, false, []⟩ := by kernel_rfl
@[go_sem] theorem ti223 : tiOf Tryd.prog 223 = some ⟨1, 8, [.fz (.nilf)], .func, false, false, []⟩ := by kernel_rfl
@[go_sem] theorem ti224 : tiOf Tryd.prog 224 = some ⟨1, 8, [.fz (.nilf)], .func, false, false, []⟩ := by kernel_rfl
@[go_sem] theorem ti225 : tiOf Tryd.prog 225 = some ⟨1, 8, [.fz (.nilf)], .func, false, false, []⟩ := by kernel_rfl
@[go_sem] theorem ti226 : tiOf Tryd.prog 226 = some ⟨1, 8, [.fz (.nilf)], .func, false, false, []⟩ := by kernel_rfl
@[go_sem] theorem ti227 : tiOf Tryd.prog 227 = some ⟨1, 8, [.fz (.nilf)], .func, false, false, []⟩ := by kernel_rfl
@[go_sem] theorem ti228 : tiOf Tryd.prog 228 = some ⟨1, 8, [.fz (.nilf)], .func, false, false, []⟩ := by kernel_rfl
@[go_sem] theorem ti229 : tiOf Tryd.prog 229 = some ⟨1, 8, [.fz (.nilf)], .func, false, false, []⟩ := by kernel_rfl
@[go_sem] theorem ti230 : tiOf Tryd.prog 230 = some ⟨1, 8, [.fz (.nilf)], .func, false, false, []⟩ := by kernel_rfl
@[go_sem] theorem ti231 : tiOf Tryd.prog 231 = some ⟨1, 8, [.fz (.nilf)], .func, false, false, []⟩ := by kernel_rfl
@[go_sem] theorem ti232 : tiOf Tryd.prog 232 = some ⟨1, 8, [.fz (.nilf)], .func, false, false, []⟩ := by kernel_rfl
@[go_sem] theorem ti233 : tiOf Tryd.prog 233 = some ⟨1, 8, [.fz (.i .u64 0)], (.int .u64), false, false, []⟩ := by kernel_rfl
@[go_sem] theorem ti234 : tiOf Tryd.prog 234 = some ⟨1, 8, [.fz (.nilf)], .func, false, false, []⟩ := by kernel_rfl
@[go_sem] theorem ti235 : tiOf Tryd.prog 235 = some ⟨1, 8, [.fz (.nilf)], .func, false, false, []⟩ := by kernel_rfl
@[go_sem] theorem ti236 : tiOf Tryd.prog 236 = some ⟨1, 8, [.fz (.nilf)], .func, false, false, []⟩ := by kernel_rfl
@[go_sem] theorem ti237 : tiOf Tryd.prog 237 = some ⟨1, 8, [.fz (.nilf)], .func, false, false, []⟩ := by kernel_rfl
@[go_sem] theorem ti239 : tiOf Tryd.prog 239 = some ⟨1, 8, [.fz (.i .u64 0)], (.int .u64), false, false, []⟩ := by kernel_rfl
@[go_sem] theorem ti240 : tiOf Tryd.prog 240 = some ⟨1, 8, [.fz (.nilf)], .func, false, false, []⟩ := by kernel_rfl
@[go_sem] theorem ti241 : tiOf Tryd.prog 241 = some ⟨1, 8, [.fz (.nilf)], .func, false, false, []⟩ := by kernel_rfl
@[go_sem] theorem ti243 : tiOf Tryd.prog 243 = some ⟨1, 8, [.fz (.nilf)], .func, false, false, []⟩ := by kernel_rfl
@[go_sem] theorem ti244 : tiOf Tryd.prog 244 = some ⟨1, 8, [.fz (.nilf)], .func, false, false, []⟩ := by kernel_rfl
@[go_sem] theorem ti245 : tiOf Tryd.prog 245 = some ⟨1, 8, [.fz (.i .i64 0)], (.int .i64), false, false, []⟩ := by kernel_rfl
@[go_sem] theorem ti247 : tiOf Tryd.prog 247 = some ⟨1, 8, [.fz (.nilf)], .func, false, false, []⟩ := by kernel_rfl
@[go_sem] theorem ti248 : tiOf Tryd.prog 248 = some ⟨1, 8, [.fz (.nilf)], .func, false, false, []⟩ := by kernel_rfl
@[go_sem] theorem ti249 : tiOf Tryd.prog 249 = some ⟨1, 8, [.fz (.nilf)], .func, false, false, []⟩ := by kernel_rfl
@[go_sem] theorem ti250 : tiOf Tryd.prog 250 = some ⟨1, 8, [.fz (.nilf)], .func, false, false, []⟩ := by kernel_rfl
@[go_sem] theorem ti251 : tiOf Tryd.prog 251 = some ⟨1, 8, [.fz (.nilf)], .func, false, false, []⟩ := by kernel_rfl
@[go_sem] theorem ti252 : tiOf Tryd.prog 252 = some ⟨1, 8, [.fz (.nilf)], .func, false, false, []⟩ := by kernel_rfl
@[go_sem] theorem ti253 : tiOf Tryd.prog 253 = some ⟨1, 4, [.fz (.i .u32 0)], (.int .u32), false, false, []⟩ := by kernel_rfl
@[go_sem] theorem ti254 : tiOf Tryd.prog 254 = some ⟨1, 8, [.fz (.nilf)], .func, false, false, []⟩ := by kernel_rfl
@[go_sem] theorem ti257 : tiOf Tryd.prog 257 = some ⟨1, 8, [.fz (.i .u64 0)], (.int .u64), false, false, []⟩ := by kernel_rfl
@[go_sem] theorem ti258 : tiOf Tryd.prog 258 = some ⟨1, 8, [.fz (.nilf)], .func, false, false, []⟩ := by kernel_rfl
@[go_sem] theorem ti259 : tiOf Tryd.prog 259 = some ⟨1, 8, [.fz (.nilf)], .func, false, false, []⟩ := by kernel_rfl
@[go_sem] theorem ti260 : tiOf Tryd.prog 260 = some ⟨1, 8, [.fz (.nilf)], .func, false, false, []⟩ := by kernel_rfl
@[go_sem] theorem ti261 : tiOf Tryd.prog 261 = some ⟨1, 8, [.fz (.nilf)], .func, false, false, []⟩ := by kernel_rfl
@[go_sem] theorem ti263 : tiOf Tryd.prog 263 = some ⟨1, 8, [.fz (.nilf)], .func, false, false, []⟩ := by kernel_rfl
@[go_sem] theorem ti266 : tiOf Tryd.prog 266 = some ⟨4, 40, [.junk, .junk, .junk, .fz (.s [])], (.struct [(0, 17), (1, 17), (2, 17), (3, 9)]), true, false, [.ptr, .ptr, .ptr, .str]⟩ := by kernel_rfl
@[go_sem] theorem ti267 : tiOf Tryd.prog 267 = some ⟨4, 40, [.junk, .junk, .junk, .fz (.s [])], (.struct [(0, 17), (1, 17), (2, 17), (3, 9)]), true, false, [.ptr, .ptr, .ptr, .str]⟩ := by kernel_rfl
@[go_sem] theorem ti269 : tiOf Tryd.prog 269 = some ⟨0, 0, [], (.struct [(0, 268)]), true, false, [.other]⟩ := by kernel_rfl
@[go_sem] theorem ti270 : tiOf Tryd.prog 270 = some ⟨0, 0, [], (.struct [(0, 268)]), true, false, [.other]⟩ := by kernel_rfl
@[go_sem] theorem ti271 : tiOf Tryd.prog 271 = some ⟨1, 8, [.fz (.nilf)], .func, false, false, []⟩ := by kernel_rfl
@[go_sem] theorem ti272 : tiOf Tryd.prog 272 = some ⟨1, 1, [.fz (.i .u8 0)], (.int .u8), false, false, []⟩ := by kernel_rfl
@[go_sem] theorem ti273 : tiOf Tryd.prog 273 = some ⟨1, 1, [.fz (.i .u8 0)], (.int .u8), false, false, []⟩ := by kernel_rfl
@[go_sem] theorem ti274 : tiOf Tryd.prog 274 = some ⟨1, 8, [.fz (.nilf)], .func, false, false, []⟩ := by kernel_rfl
@[go_sem] theorem ti276 : tiOf Tryd.prog 276 = some ⟨1, 4, [.fz (.i .i32 0)], (.int .i32), false, false, []⟩ := by kernel_rfl
@[go_sem] theorem ti277 : tiOf Tryd.prog 277 = some ⟨1, 4, [.fz (.i .i32 0)], (.int .i32), false, false, []⟩ := by kernel_rfl
@[go_sem] theorem ti278 : tiOf Tryd.prog 278 = some ⟨11, 48, [.fz (.i .u64 0), .fz (.i .u64 0), .fz (.i .u32 0), .fz (.i .u8 0), .fz (.i .u8 0), .fz (.i .u8 0), .fz (.i .u8 0), .fz (.nilf), .junk, .fz (.i .i32 0), .fz (.i .i32 0)], (.struct [(0, 12), (1, 12), (2, 253), (3, 272), (4, 5), (5, 5), (6, 273), (7, 274), (8, 275), (9, 276), (10, 277)]), true, false, [(.int .u64), (.int .u64), (.int .u32), (.int .u8), (.int .u8), (.int .u8), (.int .u8), .func, .ptr, (.int .i32), (.int .i32)]⟩ := by kernel_rfl
@[go_sem] theorem ti279 : tiOf Tryd.prog 279 = some ⟨11, 48, [.fz (.i .u64 0), .fz (.i .u64 0), .fz (.i .u32 0), .fz (.i .u8 0), .fz (.i .u8 0), .fz (.i .u8 0), .fz (.i .u8 0), .fz (.nilf), .junk, .fz (.i .i32 0), .fz (.i .i32 0)], (.struct [(0, 12), (1, 12), (2, 253), (3, 272), (4, 5), (5, 5), (6, 273), (7, 274), (8, 275), (9, 276), (10, 277)]), true, false, [(.int .u64), (.int .u64), (.int .u32), (.int .u8), (.int .u8), (.int .u8), (.int .u8), .func, .ptr, (.int .i32), (.int .i32)]⟩ := by kernel_rfl
theorem ok7 : CallOk Tryd.prog 7 := Tryd.call7
theorem ok12 : CallOk Tryd.prog 12 := Tryd.call12
theorem ok13 : CallOk Tryd.prog 13 := Tryd.call13
theorem ok14 : CallOk Tryd.prog 14 := Tryd.call14
theorem ok16 : CallOk Tryd.prog 16 := Tryd.call16
theorem ok17 : CallOk Tryd.prog 17 := Tryd.call17
theorem ok20 : CallOk Tryd.prog 20 := Tryd.call20
theorem ok21 : CallOk Tryd.prog 21 := Tryd.call21
theorem ok28 : CallOk Tryd.prog 28 := Tryd.call28
theorem ok29 : CallOk Tryd.prog 29 := Tryd.call29
theorem ok30 : CallOk Tryd.prog 30 := Tryd.call30
theorem ok31 : CallOk Tryd.prog 31 := Tryd.call31
theorem ok34 : CallOk Tryd.prog 34 := Tryd.call34
theorem ok36 : CallOk Tryd.prog 36 := Tryd.call36
theorem ok38 : CallOk Tryd.prog 38 := Tryd.call38
theorem ok43 : CallOk Tryd.prog 43 := Tryd.call43
theorem ok48 : CallOk Tryd.prog 48 := Tryd.call48
theorem ok49 : CallOk Tryd.prog 49 := Tryd.call49
theorem ok51 : CallOk Tryd.prog 51 := Tryd.call51
theorem ok52 : CallOk Tryd.prog 52 := Tryd.call52
theorem ok53 : CallOk Tryd.prog 53 := Tryd.call53
theorem ok54 : CallOk Tryd.prog 54 := Tryd.call54
theorem ok55 : CallOk Tryd.prog 55 := Tryd.call55
theorem ok64 : CallOk Tryd.prog 64 := Tryd.call64
theorem ok67 : CallOk Tryd.prog 67 := Tryd.call67
theorem ok69 : CallOk Tryd.prog 69 := Tryd.call69
theorem ok70 : CallOk Tryd.prog 70 := Tryd.call70
theorem ok71 : CallOk Tryd.prog 71 := Tryd.call71
theorem ok72 : CallOk Tryd.prog 72 := Tryd.call72
theorem ok73 : CallOk Tryd.prog 73 := Tryd.call73
theorem ok74 : CallOk Tryd.prog 74 := Tryd.call74
theorem ok75 : CallOk Tryd.prog 75 := Tryd.call75
theorem ok76 : CallOk Tryd.prog 76 := Tryd.call76
theorem ok85 : CallOk Tryd.prog 85 := Tryd.call85
theorem ok87 : CallOk Tryd.prog 87 := Tryd.call87
theorem ok88 : CallOk Tryd.prog 88 := Tryd.call88
theorem ok91 : CallOk Tryd.prog 91 := Tryd.call91
theorem ok93 : CallOk Tryd.prog 93 := Tryd.call93
theorem ok94 : CallOk Tryd.prog 94 := Tryd.call94
theorem ok95 : CallOk Tryd.prog 95 := Tryd.call95
theorem ok97 : CallOk Tryd.prog 97 := Tryd.call97
theorem ok109 : CallOk Tryd.prog 109 := Tryd.call109
theorem ok110 : CallOk Tryd.prog 110 := Tryd.call110
theorem ok111 : CallOk Tryd.prog 111 := Tryd.call111
theorem ok112 : CallOk Tryd.prog 112 := Tryd.call112
theorem ok118 : CallOk Tryd.prog 118 := Tryd.call118
theorem ok120 : CallOk Tryd.prog 120 := Tryd.call120
theorem ok121 : CallOk Tryd.prog 121 := Tryd.call121
theorem ok122 : CallOk Tryd.prog 122 := Tryd.call122
theorem ok123 : CallOk Tryd.prog 123 := Tryd.call123
theorem ok124 : CallOk Tryd.prog 124 := Tryd.call124
theorem ok125 : CallOk Tryd.prog 125 := Tryd.call125
theorem ok126 : CallOk Tryd.prog 126 := Tryd.call126
theorem ok127 : CallOk Tryd.prog 127 := Tryd.call127
theorem ok128 : CallOk Tryd.prog 128 := Tryd.call128
theorem ok129 : CallOk Tryd.prog 129 := Tryd.call129
theorem ok130 : CallOk Tryd.prog 130 := Tryd.call130
theorem ok131 : CallOk Tryd.prog 131 := Tryd.call131
theorem ok142 : CallOk Tryd.prog 142 := Tryd.call142
theorem ok146 : CallOk Tryd.prog 146 := Tryd.call146
theorem ok147 : CallOk Tryd.prog 147 := Tryd.call147
theorem ok150 : CallOk Tryd.prog 150 := Tryd.call150
theorem ok154 : CallOk Tryd.prog 154 := Tryd.call154
theorem ok155 : CallOk Tryd.prog 155 := Tryd.call155
theorem ok158 : CallOk Tryd.prog 158 := Tryd.call158
theorem ok165 : CallOk Tryd.prog 165 := Tryd.call165
theorem ok168 : CallOk Tryd.prog 168 := Tryd.call168
theorem ok169 : CallOk Tryd.prog 169 := Tryd.call169
theorem ok170 : CallOk Tryd.prog 170 := Tryd.call170
theorem ok171 : CallOk Tryd.prog 171 := Tryd.call171
theorem ok172 : CallOk Tryd.prog 172 := Tryd.call172
theorem ok173 : CallOk Tryd.prog 173 := Tryd.call173
theorem ok174 : CallOk Tryd.prog 174 := Tryd.call174
theorem ok175 : CallOk Tryd.prog 175 := Tryd.call175
theorem ok178 : CallOk Tryd.prog 178 := Tryd.call178
theorem ok180 : CallOk Tryd.prog 180 := Tryd.call180
theorem ok181 : CallOk Tryd.prog 181 := Tryd.call181
theorem ok182 : CallOk Tryd.prog 182 := Tryd.call182
theorem ok183 : CallOk Tryd.prog 183 := Tryd.call183
theorem ok184 : CallOk Tryd.prog 184 := Tryd.call184
theorem ok185 : CallOk Tryd.prog 185 := Tryd.call185
theorem ok186 : CallOk Tryd.prog 186 := Tryd.call186
theorem ok187 : CallOk Tryd.prog 187 := Tryd.call187
theorem ok188 : CallOk Tryd.prog 188 := Tryd.call188
theorem ok196 : CallOk Tryd.prog 196 := Tryd.call196
theorem ok197 : CallOk Tryd.prog 197 := Tryd.call197
theorem ok198 : CallOk Tryd.prog 198 := Tryd.call198
theorem ok199 : CallOk Tryd.prog 199 := Tryd.call199
theorem ok202 : CallOk Tryd.prog 202 := Tryd.call202
theorem ok203 : CallOk Tryd.prog 203 := Tryd.call203
theorem ok204 : CallOk Tryd.prog 204 := Tryd.call204
theorem ok205 : CallOk Tryd.prog 205 := Tryd.call205
theorem ok206 : CallOk Tryd.prog 206 := Tryd.call206
theorem ok207 : CallOk Tryd.prog 207 := Tryd.call207
theorem ok208 : CallOk Tryd.prog 208 := Tryd.call208
theorem ok209 : CallOk Tryd.prog 209 := Tryd.call209
theorem ok210 : CallOk Tryd.prog 210 := Tryd.call210
theorem ok212 : CallOk Tryd.prog 212 := Tryd.call212
theorem ok213 : CallOk Tryd.prog 213 := Tryd.call213
theorem ok214 : CallOk Tryd.prog 214 := Tryd.call214
theorem ok215 : CallOk Tryd.prog 215 := Tryd.call215
theorem ok216 : CallOk Tryd.prog 216 := Tryd.call216
theorem ok217 : CallOk Tryd.prog 217 := Tryd.call217
theorem ok222 : CallOk Tryd.prog 222 := Tryd.call222
theorem ok223 : CallOk Tryd.prog 223 := Tryd.call223
end Go.Proofs.YtoicheicnbjfeaaDoor
