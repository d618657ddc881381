import Derived.Test.YtbbjghecpcobjaaDoorQ11
set_option linter.unusedSimpArgs false
namespace Go.Proofs.YtbbjghecpcobjaaDoor
open Go Go.Abs Go.Proofs
attribute [local irreducible] isName condC

end Go.Proofs.YtbbjghecpcobjaaDoor
