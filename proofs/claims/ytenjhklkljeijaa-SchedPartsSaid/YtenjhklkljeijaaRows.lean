/-
  No cell of these rows narrows 'for every input' (looked for: loops, veiled, ifaces, maps, wideKeys, modest, calm, conditions, laid).
  DERIVED. THE GIVEN ROWS OF THIS SEAT. 4 by the template 'for every input the law returns true; each argument reads behind the call as it read before'; 0 by the template 'total and deterministic' (their statements: YtenjhklkljeijaaTotals.lean).
  GIVEN WITH THE SEED: the statements are not yours to turn. If you find one false, say at which input.
  Laid BY PROGRAM, IN A SANDBOX (cutbox-rows.mjs): the forced cells as the released guide's own fill.sh prints them over the translation 309a50bd80873cbe… (all of the seat's roots in one cut). By AI agents, Wed Nov 11 2026. No macro, syntax, notation, axiom, sorry.
-/
import Derived.Test.YtenjhklkljeijaaChecked
import GoSem.Claim
import GoSem.ClaimJoined
import GoSem.ClaimMapViews
import Derived.JoinedTies
import Derived.KernelRfl
namespace Go.Proofs.Ytenjhklkljeijaa
/- THE CELL 'sum', in the pinned program and in every row, IS THE sha256 OF THE DUMP (.gsa) THAT YtenjhklkljeijaaProg.lean LOADS. Nothing in Lean hashes anything: it is a label: what it is worth is what the hold of that sum in a sandbox is worth. -/
noncomputable def Try.pinned : Pinned := { name := "ytenjhklkljeijaa", sum := "309a50bd80873cbefbca0e5b4cb5eef829144b88421848fd1a65b1c838e992bc", checked := Try.checked }
namespace Rows
def none {H : Type} : Left H := { results := [], args := [] }

/-- 'flywheellaw27.SchedRuns': WHATEVER THE INPUT: true; the input reads as it did. -/
def schedRunsSpec : ChangeSpec := { name := "schedRuns", fn := fun _ => fun
  | [d1, d2] => { results := [.lit (.bool true)], args := [d1, d2] }
  | _ => none }
def schedRunsRow : OpenClaim := { program := "ytenjhklkljeijaa", sum := "309a50bd80873cbefbca0e5b4cb5eef829144b88421848fd1a65b1c838e992bc", func := "flywheel/flywheellaw27.SchedRuns", spec := "schedRuns", unfollowed := true, recurses := true, apart := false }
def SchedRunsSaid : Prop := schedRunsRow.holds Try.pinned (OpenSpec.ofChange schedRunsSpec)

/-- ITS FALSE NEIGHBOUR: 'it returns false'. Refute it at one input. -/
def schedRunsWrong : ChangeSpec := { name := "schedRuns", fn := fun _ => fun
  | [d1, d2] => { results := [.lit (.bool false)], args := [d1, d2] }
  | _ => none }
def SchedRunsWrongFalsely : Prop := schedRunsRow.holds Try.pinned (OpenSpec.ofChange schedRunsWrong)

/-- 'flywheellaw27.SchedNext': WHATEVER THE INPUT: true; the input reads as it did. -/
def schedNextSpec : ChangeSpec := { name := "schedNext", fn := fun _ => fun
  | [d1, d2, d3] => { results := [.lit (.bool true)], args := [d1, d2, d3] }
  | _ => none }
def schedNextRow : OpenClaim := { program := "ytenjhklkljeijaa", sum := "309a50bd80873cbefbca0e5b4cb5eef829144b88421848fd1a65b1c838e992bc", func := "flywheel/flywheellaw27.SchedNext", spec := "schedNext", unfollowed := true, recurses := true, apart := false }
def SchedNextSaid : Prop := schedNextRow.holds Try.pinned (OpenSpec.ofChange schedNextSpec)

/-- ITS FALSE NEIGHBOUR: 'it returns false'. Refute it at one input. -/
def schedNextWrong : ChangeSpec := { name := "schedNext", fn := fun _ => fun
  | [d1, d2, d3] => { results := [.lit (.bool false)], args := [d1, d2, d3] }
  | _ => none }
def SchedNextWrongFalsely : Prop := schedNextRow.holds Try.pinned (OpenSpec.ofChange schedNextWrong)

/-- 'flywheellaw27.SchedParts': WHATEVER THE INPUT: true; the input reads as it did. -/
def schedPartsSpec : ChangeSpec := { name := "schedParts", fn := fun _ => fun
  | [d1, d2, d3] => { results := [.lit (.bool true)], args := [d1, d2, d3] }
  | _ => none }
def schedPartsRow : OpenClaim := { program := "ytenjhklkljeijaa", sum := "309a50bd80873cbefbca0e5b4cb5eef829144b88421848fd1a65b1c838e992bc", func := "flywheel/flywheellaw27.SchedParts", spec := "schedParts", unfollowed := true, recurses := true, apart := false }
def SchedPartsSaid : Prop := schedPartsRow.holds Try.pinned (OpenSpec.ofChange schedPartsSpec)

/-- ITS FALSE NEIGHBOUR: 'it returns false'. Refute it at one input. -/
def schedPartsWrong : ChangeSpec := { name := "schedParts", fn := fun _ => fun
  | [d1, d2, d3] => { results := [.lit (.bool false)], args := [d1, d2, d3] }
  | _ => none }
def SchedPartsWrongFalsely : Prop := schedPartsRow.holds Try.pinned (OpenSpec.ofChange schedPartsWrong)

/-- 'flywheellaw27.SchedWatches': WHATEVER THE INPUT: true; the input reads as it did. -/
def schedWatchesSpec : ChangeSpec := { name := "schedWatches", fn := fun _ => fun
  | [d1, d2, d3] => { results := [.lit (.bool true)], args := [d1, d2, d3] }
  | _ => none }
def schedWatchesRow : OpenClaim := { program := "ytenjhklkljeijaa", sum := "309a50bd80873cbefbca0e5b4cb5eef829144b88421848fd1a65b1c838e992bc", func := "flywheel/flywheellaw27.SchedWatches", spec := "schedWatches", unfollowed := true, recurses := true, apart := false }
def SchedWatchesSaid : Prop := schedWatchesRow.holds Try.pinned (OpenSpec.ofChange schedWatchesSpec)

/-- ITS FALSE NEIGHBOUR: 'it returns false'. Refute it at one input. -/
def schedWatchesWrong : ChangeSpec := { name := "schedWatches", fn := fun _ => fun
  | [d1, d2, d3] => { results := [.lit (.bool false)], args := [d1, d2, d3] }
  | _ => none }
def SchedWatchesWrongFalsely : Prop := schedWatchesRow.holds Try.pinned (OpenSpec.ofChange schedWatchesWrong)

/- THE SECOND FORM. 'bulk': how many values and letters a reading holds, each counted each time it is reached (what is shared counts as often as it is met; a slice's spare places count too). A statement '..UptoSaid' is the law's where the arguments, and the package variables that the reading takes, are together of bulk at most 1048576: NARROWER than '..Said'. Prove '..Said' where nothing that the law and all that it calls make is longer than what came in: it says more and counts as full. Else prove '..UptoSaid'. A law counts once. -/
mutual
def uptoBulk {H : Type} : DataW H → Nat
  | .lit (.string bytes) => bytes.length + 1
  | .lit _ => 1
  | .nil => 1
  | .ptr d => uptoBulk d + 1
  | .slice elems spare => uptoBulkAll elems + uptoBulkAll spare + 1
  | .agg parts => uptoBulkAll parts + 1
  | .iface _ d => uptoBulk d + 1
  | .map entries => uptoBulkEntries entries + 1
  | .held _ => 1
def uptoBulkAll {H : Type} : List (DataW H) → Nat
  | [] => 0
  | d :: r => uptoBulk d + uptoBulkAll r
def uptoBulkEntries {H : Type} : List (Lit × DataW H) → Nat
  | [] => 0
  | x :: r => uptoBulkEntry x + uptoBulkEntries r
def uptoBulkEntry {H : Type} : Lit × DataW H → Nat
  | (.string bytes, d) => bytes.length + uptoBulk d + 1
  | (_, d) => uptoBulk d + 1
 end
def uptoSmall : (H : Type) → List (DataW H) → Bool := fun _ ds => decide (uptoBulkAll ds ≤ 1048576)
def OpenSpec.upto (s : _root_.Go.ChangeSpec) : _root_.Go.OpenSpec := { _root_.Go.OpenSpec.ofChange s with cond := some uptoSmall }

/-- 'flywheellaw27.SchedRuns', WHERE WHAT IT READS IS OF BULK AT MOST 1048576: true; the input reads as it did. -/
def schedRunsUptoRow : OpenClaim := { program := "ytenjhklkljeijaa", sum := "309a50bd80873cbefbca0e5b4cb5eef829144b88421848fd1a65b1c838e992bc", func := "flywheel/flywheellaw27.SchedRuns", spec := "schedRuns", unfollowed := true, recurses := true, apart := false, narrowed := true }
def SchedRunsUptoSaid : Prop := schedRunsUptoRow.holds Try.pinned (OpenSpec.upto schedRunsSpec)

/-- 'flywheellaw27.SchedNext', WHERE WHAT IT READS IS OF BULK AT MOST 1048576: true; the input reads as it did. -/
def schedNextUptoRow : OpenClaim := { program := "ytenjhklkljeijaa", sum := "309a50bd80873cbefbca0e5b4cb5eef829144b88421848fd1a65b1c838e992bc", func := "flywheel/flywheellaw27.SchedNext", spec := "schedNext", unfollowed := true, recurses := true, apart := false, narrowed := true }
def SchedNextUptoSaid : Prop := schedNextUptoRow.holds Try.pinned (OpenSpec.upto schedNextSpec)

/-- 'flywheellaw27.SchedParts', WHERE WHAT IT READS IS OF BULK AT MOST 1048576: true; the input reads as it did. -/
def schedPartsUptoRow : OpenClaim := { program := "ytenjhklkljeijaa", sum := "309a50bd80873cbefbca0e5b4cb5eef829144b88421848fd1a65b1c838e992bc", func := "flywheel/flywheellaw27.SchedParts", spec := "schedParts", unfollowed := true, recurses := true, apart := false, narrowed := true }
def SchedPartsUptoSaid : Prop := schedPartsUptoRow.holds Try.pinned (OpenSpec.upto schedPartsSpec)

/-- 'flywheellaw27.SchedWatches', WHERE WHAT IT READS IS OF BULK AT MOST 1048576: true; the input reads as it did. -/
def schedWatchesUptoRow : OpenClaim := { program := "ytenjhklkljeijaa", sum := "309a50bd80873cbefbca0e5b4cb5eef829144b88421848fd1a65b1c838e992bc", func := "flywheel/flywheellaw27.SchedWatches", spec := "schedWatches", unfollowed := true, recurses := true, apart := false, narrowed := true }
def SchedWatchesUptoSaid : Prop := schedWatchesUptoRow.holds Try.pinned (OpenSpec.upto schedWatchesSpec)

end Rows
end Go.Proofs.Ytenjhklkljeijaa
