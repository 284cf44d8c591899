/-
  What a row that lists strconv's table gives the walks; a world in which the listed variables lie as start-up code lays them (chapter 12). Condition: none.
-/
import Derived.Test.YteljecehppeamaaDoorLaid
import Derived.Test.YteljecehppeamaaDoorStrconvF
namespace Go.Proofs.YteljecehppeamaaDoor
open Go.RowKit Go.Fw
set_option linter.unusedVariables false
theorem pow_of {W : World} {l : List (String × DataW Unit)} (h : laidMetH Tryd.prog l W) (hp : (l.all fun x => x.2.handleName?.isNone) = true)
    (m1 : ("internal/strconv.uint64pow10", Rows.laid_internal_strconv_uint64pow10) ∈ l) : Pow W := by
  rw [MakeChecks.laidMetH_plain _ _ _ hp] at h
  obtain ⟨r1, h1⟩ := laid_at h m1
  rw [pow_data] at h1
  exact Lib.tabIs_of_head (g := 0) (t := 122) (e := 101) (n := 20) (by kernel_rfl) (by kernel_rfl) (by kernel_rfl) (by kernel_rfl) (by kernel_rfl) (by kernel_rfl) h1
def litCells : DataW Unit → List Value
  | .agg l => l.map fun d => match d with
    | .lit (.int k z) => .int k z
    | _ => undef
  | _ => []
/-- the door's own heap, and the pinned table laid in its block -/
noncomputable def laidWorld (os : Os) : World :=
  { World.doorLaid Tryd.prog 72 os with heap := (World.doorLaid Tryd.prog 72 os).heap.setIfInBounds 6 (.cells (litCells Go.Pinned.utf8First).toArray 141) }
set_option maxRecDepth 100000 in
theorem door_met_tells (os : Os) (args : Array Value) : laidMetH Tryd.prog Rows.policyTellsRow.laid ((laidWorld os).forCall (fun _ _ => 0) ⟨#[], args, []⟩).memory :=
  laidMetH_of_parts3 (fuel := 8) (laidMet_of_run' 8 (by kernel_rfl) (by kernel_rfl)) (by kernel_rfl) (by kernel_rfl)
set_option maxRecDepth 100000 in
theorem door_met (os : Os) (args : Array Value) : laidMetH Tryd.prog Rows.policyReadsRow.laid ((laidWorld os).forCall (fun _ _ => 0) ⟨#[], args, []⟩).memory :=
  laidMetH_of_parts3 (fuel := 8) (laidMet_of_run' 8 (by kernel_rfl) (by kernel_rfl)) (by kernel_rfl) (by kernel_rfl)
end Go.Proofs.YteljecehppeamaaDoor
