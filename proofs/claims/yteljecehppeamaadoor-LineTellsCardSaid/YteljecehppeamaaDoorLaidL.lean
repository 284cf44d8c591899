/-
  The variables that the rows of chapter 41 list, as the door's world lays them. Condition: none.
-/
import Derived.Test.YteljecehppeamaaDoorLaidS
namespace Go.Proofs.YteljecehppeamaaDoor
open Go.RowKit Go.Fw
set_option maxRecDepth 100000 in
theorem door_met_lparses (os : Os) (args : Array Value) : laidMetH Tryd.prog Rows.lineParsesRow.laid ((laidWorld os).forCall (fun _ _ => 0) ⟨#[], args, []⟩).memory :=
  laidMetH_of_parts3 (fuel := 8) (laidMet_of_run' 8 (by kernel_rfl) (by kernel_rfl)) (by kernel_rfl) (by kernel_rfl)
theorem door_met_ltells (os : Os) (args : Array Value) : laidMetH Tryd.prog Rows.lineTellsRow.laid ((laidWorld os).forCall (fun _ _ => 0) ⟨#[], args, []⟩).memory := door_met_lparses os args
end Go.Proofs.YteljecehppeamaaDoor
