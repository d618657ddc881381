import Derived.Test.YtmconmiemdinkaaGreatDoorFV
set_option linter.unusedSimpArgs false
namespace Go.Abs
open Go
end Go.Abs
