import Derived.Test.YtkkffhphodngkaaDoorAbs44
set_option linter.unusedSimpArgs false
namespace Go.Abs
open Go
section
variable {G:Nat→List FD} {N:Nat} {st:St}
theorem zq0 {a b c:St}(h1:zfv G N a b)(h2:zfv G N b c):zfv G N a c:=zfv.trans h1 h2
end
end Go.Abs
