import Derived.Test.YtdlioodgfopmfaaDoorPRF
set_option linter.unusedSimpArgs false
namespace Go.Proofs.YtdlioodgfopmfaaDoor
open Go Go.Abs Go.RowKit Go.WideShapes Go.ChangeShapes Go.ChangeAt
/-! the closed facts of the program, each by itself: together they want too much room -/
theorem am {a b : Bool} (h1 : a = true) (h2 : b = true) : (a && b) = true := by rw [h1, h2]; rfl
set_option maxRecDepth 100000 in
theorem jLaidOut : laidOutB Tryd.pinned.checked.prog = true := by kernel_rfl
set_option maxRecDepth 100000 in
theorem jMaps : mapsRowed Tryd.pinned.checked.prog = true := by kernel_rfl
set_option maxRecDepth 100000 in
theorem jStops : (Tryd.pinned.checked.prog.stops == []) = true := by kernel_rfl
set_option maxRecDepth 100000 in
theorem jKnobs : (Tryd.pinned.checked.prog.stopKnobs == []) = true := by kernel_rfl
set_option maxRecDepth 100000 in
theorem jHeard : Tryd.pinned.checked.prog.stopsHeard = true := by kernel_rfl
set_option maxRecDepth 100000 in
theorem jEnter : Tryd.pinned.checked.prog.mayEnter = true := by kernel_rfl
set_option maxRecDepth 100000 in
theorem jKeys : (Rows.tableauCheckMatchesSpecUptoRow.plainKeys == Tryd.pinned.checked.prog.plainKeys) = true := by kernel_rfl
set_option maxRecDepth 100000 in
theorem jLifts : (Rows.tableauCheckMatchesSpecUptoRow.lifted == Tryd.pinned.checked.prog.liftsFinal) = true := by kernel_rfl
set_option maxRecDepth 100000 in
theorem jMake : (Tryd.pinned.checked.prog.make == some Rows.tableauCheckMatchesSpecUptoRow.make) = true := by kernel_rfl
set_option maxRecDepth 100000 in
theorem jLooks : false = Tryd.pinned.checked.prog.looks [] := by kernel_rfl
end Go.Proofs.YtdlioodgfopmfaaDoor
