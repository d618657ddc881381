import Derived.Test.YtkkffhphodngkaaDoorAbs44
set_option linter.unusedSimpArgs false
namespace Go.Abs
open Go
section
variable {G:Nat→List FD} {N:Nat} {st:St}
theorem zp7 {a b c:St}(h1:ze9 G N a b)(h2:ze9 G N b c):ze9 G N a c:=ze9.trans h1 h2
end
end Go.Abs
