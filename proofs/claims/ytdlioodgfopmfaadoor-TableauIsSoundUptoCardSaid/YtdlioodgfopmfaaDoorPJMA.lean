import Derived.Test.YtdlioodgfopmfaaDoorPRMA
set_option maxRecDepth 100000
set_option linter.unusedSimpArgs false
namespace Go.Proofs.YtdlioodgfopmfaaDoor
open Go Go.Abs Go.RowKit Go.WideShapes Go.ChangeShapes Go.ChangeAt
theorem am {a b : Bool} (h1 : a = true) (h2 : b = true) : (a && b) = true := by rw [h1, h2]; rfl
theorem jLaidOut : laidOutB Tryd.pinned.checked.prog = true := by kernel_rfl
theorem jMaps : mapsRowed Tryd.pinned.checked.prog = true := by kernel_rfl
theorem jStops : (Tryd.pinned.checked.prog.stops == []) = true := by kernel_rfl
theorem jKnobs : (Tryd.pinned.checked.prog.stopKnobs == []) = true := by kernel_rfl
theorem jHeard : Tryd.pinned.checked.prog.stopsHeard = true := by kernel_rfl
theorem jEnter : Tryd.pinned.checked.prog.mayEnter = true := by kernel_rfl
theorem jKeys : (Rows.tableauCheckMatchesSpecUptoRow.plainKeys == Tryd.pinned.checked.prog.plainKeys) = true := by kernel_rfl
theorem jLifts : (Rows.tableauCheckMatchesSpecUptoRow.lifted == Tryd.pinned.checked.prog.liftsFinal) = true := by kernel_rfl
theorem jMake : (Tryd.pinned.checked.prog.make == some Rows.tableauCheckMatchesSpecUptoRow.make) = true := by kernel_rfl
theorem jLooks : false = Tryd.pinned.checked.prog.looks [] := by kernel_rfl
end Go.Proofs.YtdlioodgfopmfaaDoor
