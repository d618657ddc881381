import Derived.Test.YtmconmiemdinkaaGreatDoorFX
set_option linter.unusedSimpArgs false
namespace Go.Abs
open Go
end Go.Abs
