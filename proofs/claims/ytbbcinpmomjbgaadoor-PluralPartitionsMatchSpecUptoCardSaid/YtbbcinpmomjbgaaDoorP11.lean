/- Partitions returns what the document says, for every group (PluralPartitionsMatchSpec), for inputs within the bound of the statement's second form; no conditions. -/
import Derived.Test.YtbbcinpmomjbgaaDoorP9
import Derived.Test.YtbbcinpmomjbgaaDoorP10
set_option linter.unusedSimpArgs false
namespace Go.Proofs.YtbbcinpmomjbgaaDoor
open Go
theorem partitionsCard : Rows.PluralPartitionsMatchSpecUptoCardSaid := cardUpto (Abs.TblOk_glob hT12)
#print axioms partitionsCard
end Go.Proofs.YtbbcinpmomjbgaaDoor
