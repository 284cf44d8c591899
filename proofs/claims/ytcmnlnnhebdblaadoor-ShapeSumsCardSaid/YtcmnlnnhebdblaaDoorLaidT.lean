/-
  A world in which the listed variables lie as start-up code lays them (chapter 54). Condition: none.
-/
import Derived.Test.YtcmnlnnhebdblaaDoorLaidR
namespace Go.Proofs.YtcmnlnnhebdblaaDoor
open Go.RowKit Go.Fw
set_option linter.unusedVariables false
def litCells : DataW Unit → List Value
  | .agg l => l.map fun d => match d with
    | .lit (.int k z) => .int k z
    | _ => undef
  | _ => []
/-- the door's own heap, and the pinned table laid in its block -/
noncomputable def laidWorld (os : Os) : World :=
  { World.doorLaid Tryd.prog 72 os with heap := (World.doorLaid Tryd.prog 72 os).heap.setIfInBounds 6 (.cells (litCells Go.Pinned.utf8First).toArray 120) }
set_option maxRecDepth 100000 in
theorem door_met_texts (os : Os) (args : Array Value) : laidMetH Tryd.prog Rows.shapeTextsRow.laid ((laidWorld os).forCall (fun _ _ => 0) ⟨#[], args, []⟩).memory :=
  laidMetH_of_parts3 (fuel := 8) (laidMet_of_run' 8 (by kernel_rfl) (by kernel_rfl)) (by kernel_rfl) (by kernel_rfl)
theorem door_met_sums (os : Os) (args : Array Value) : laidMetH Tryd.prog Rows.shapeSumsRow.laid ((laidWorld os).forCall (fun _ _ => 0) ⟨#[], args, []⟩).memory := door_met_texts os args
end Go.Proofs.YtcmnlnnhebdblaaDoor
