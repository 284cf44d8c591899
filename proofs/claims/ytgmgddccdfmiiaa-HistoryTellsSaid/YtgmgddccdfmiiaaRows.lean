/-
  No cell of these rows narrows 'for every input' (looked for: loops, veiled, ifaces, maps, wideKeys, modest, calm, conditions, laid).
  DERIVED. THE GIVEN ROWS OF THIS SEAT. 7 by the template 'for every input the law returns true; each argument reads behind the call as it read before'; 0 by the template 'total and deterministic' (their statements: YtgmgddccdfmiiaaTotals.lean).
  GIVEN WITH THE SEED: the statements are not yours to turn. If you find one false, say at which input.
  Laid BY PROGRAM, IN A SANDBOX (cutbox-rows.mjs): the forced cells as the released guide's own fill.sh prints them over the translation a270e6e03e3401a7… (all of the seat's roots in one cut). By AI agents, Wed Nov 11 2026. No macro, syntax, notation, axiom, sorry.
-/
import Derived.Test.YtgmgddccdfmiiaaChecked
import GoSem.Claim
import GoSem.ClaimJoined
import GoSem.ClaimMapViews
import Derived.JoinedTies
import Derived.KernelRfl
namespace Go.Proofs.Ytgmgddccdfmiiaa
/- THE CELL 'sum', in the pinned program and in every row, IS THE sha256 OF THE DUMP (.gsa) THAT YtgmgddccdfmiiaaProg.lean LOADS. Nothing in Lean hashes anything: it is a label: what it is worth is what the hold of that sum in a sandbox is worth. -/
noncomputable def Try.pinned : Pinned := { name := "ytgmgddccdfmiiaa", sum := "a270e6e03e3401a71e8bfdedbe1f49a1b50086f7c29f34a26ada440782e14852", checked := Try.checked }
namespace Rows
def none {H : Type} : Left H := { results := [], args := [] }

/-- 'flywheellaw07.RingTells': WHATEVER THE INPUT: true; the input reads as it did. -/
def ringTellsSpec : ChangeSpec := { name := "ringTells", fn := fun _ => fun
  | [d1, d2, d3, d4] => { results := [.lit (.bool true)], args := [d1, d2, d3, d4] }
  | _ => none }
def ringTellsRow : OpenClaim := { program := "ytgmgddccdfmiiaa", sum := "a270e6e03e3401a71e8bfdedbe1f49a1b50086f7c29f34a26ada440782e14852", func := "flywheel/flywheellaw07.RingTells", spec := "ringTells", unfollowed := true, recurses := true, apart := false }
def RingTellsSaid : Prop := ringTellsRow.holds Try.pinned (OpenSpec.ofChange ringTellsSpec)

/-- ITS FALSE NEIGHBOUR: 'it returns false'. Refute it at one input. -/
def ringTellsWrong : ChangeSpec := { name := "ringTells", fn := fun _ => fun
  | [d1, d2, d3, d4] => { results := [.lit (.bool false)], args := [d1, d2, d3, d4] }
  | _ => none }
def RingTellsWrongFalsely : Prop := ringTellsRow.holds Try.pinned (OpenSpec.ofChange ringTellsWrong)

/-- 'flywheellaw07.RingKeeps': WHATEVER THE INPUT: true; the input reads as it did. -/
def ringKeepsSpec : ChangeSpec := { name := "ringKeeps", fn := fun _ => fun
  | [d1, d2] => { results := [.lit (.bool true)], args := [d1, d2] }
  | _ => none }
def ringKeepsRow : OpenClaim := { program := "ytgmgddccdfmiiaa", sum := "a270e6e03e3401a71e8bfdedbe1f49a1b50086f7c29f34a26ada440782e14852", func := "flywheel/flywheellaw07.RingKeeps", spec := "ringKeeps", unfollowed := true, recurses := true, apart := false }
def RingKeepsSaid : Prop := ringKeepsRow.holds Try.pinned (OpenSpec.ofChange ringKeepsSpec)

/-- ITS FALSE NEIGHBOUR: 'it returns false'. Refute it at one input. -/
def ringKeepsWrong : ChangeSpec := { name := "ringKeeps", fn := fun _ => fun
  | [d1, d2] => { results := [.lit (.bool false)], args := [d1, d2] }
  | _ => none }
def RingKeepsWrongFalsely : Prop := ringKeepsRow.holds Try.pinned (OpenSpec.ofChange ringKeepsWrong)

/-- 'flywheellaw15.SteadyHolds': WHATEVER THE INPUT: true; the input reads as it did. -/
def steadyHoldsSpec : ChangeSpec := { name := "steadyHolds", fn := fun _ => fun
  | [d1, d2, d3, d4] => { results := [.lit (.bool true)], args := [d1, d2, d3, d4] }
  | _ => none }
def steadyHoldsRow : OpenClaim := { program := "ytgmgddccdfmiiaa", sum := "a270e6e03e3401a71e8bfdedbe1f49a1b50086f7c29f34a26ada440782e14852", func := "flywheel/flywheellaw15.SteadyHolds", spec := "steadyHolds", apart := false }
def SteadyHoldsSaid : Prop := steadyHoldsRow.holds Try.pinned (OpenSpec.ofChange steadyHoldsSpec)

/-- ITS FALSE NEIGHBOUR: 'it returns false'. Refute it at one input. -/
def steadyHoldsWrong : ChangeSpec := { name := "steadyHolds", fn := fun _ => fun
  | [d1, d2, d3, d4] => { results := [.lit (.bool false)], args := [d1, d2, d3, d4] }
  | _ => none }
def SteadyHoldsWrongFalsely : Prop := steadyHoldsRow.holds Try.pinned (OpenSpec.ofChange steadyHoldsWrong)

/-- 'flywheellaw07.RingClones': WHATEVER THE INPUT: true; the input reads as it did. -/
def ringClonesSpec : ChangeSpec := { name := "ringClones", fn := fun _ => fun
  | [d1, d2, d3] => { results := [.lit (.bool true)], args := [d1, d2, d3] }
  | _ => none }
def ringClonesRow : OpenClaim := { program := "ytgmgddccdfmiiaa", sum := "a270e6e03e3401a71e8bfdedbe1f49a1b50086f7c29f34a26ada440782e14852", func := "flywheel/flywheellaw07.RingClones", spec := "ringClones", unfollowed := true, recurses := true, apart := false }
def RingClonesSaid : Prop := ringClonesRow.holds Try.pinned (OpenSpec.ofChange ringClonesSpec)

/-- ITS FALSE NEIGHBOUR: 'it returns false'. Refute it at one input. -/
def ringClonesWrong : ChangeSpec := { name := "ringClones", fn := fun _ => fun
  | [d1, d2, d3] => { results := [.lit (.bool false)], args := [d1, d2, d3] }
  | _ => none }
def RingClonesWrongFalsely : Prop := ringClonesRow.holds Try.pinned (OpenSpec.ofChange ringClonesWrong)

/-- 'flywheellaw15.SteadyTells': WHATEVER THE INPUT: true; the input reads as it did. -/
def steadyTellsSpec : ChangeSpec := { name := "steadyTells", fn := fun _ => fun
  | [d1, d2] => { results := [.lit (.bool true)], args := [d1, d2] }
  | _ => none }
def steadyTellsRow : OpenClaim := { program := "ytgmgddccdfmiiaa", sum := "a270e6e03e3401a71e8bfdedbe1f49a1b50086f7c29f34a26ada440782e14852", func := "flywheel/flywheellaw15.SteadyTells", spec := "steadyTells", apart := false }
def SteadyTellsSaid : Prop := steadyTellsRow.holds Try.pinned (OpenSpec.ofChange steadyTellsSpec)

/-- ITS FALSE NEIGHBOUR: 'it returns false'. Refute it at one input. -/
def steadyTellsWrong : ChangeSpec := { name := "steadyTells", fn := fun _ => fun
  | [d1, d2] => { results := [.lit (.bool false)], args := [d1, d2] }
  | _ => none }
def SteadyTellsWrongFalsely : Prop := steadyTellsRow.holds Try.pinned (OpenSpec.ofChange steadyTellsWrong)

/-- 'flywheellaw14.HistoryTells': WHATEVER THE INPUT: true; the input reads as it did. -/
def historyTellsSpec : ChangeSpec := { name := "historyTells", fn := fun _ => fun
  | [d1, d2, d3] => { results := [.lit (.bool true)], args := [d1, d2, d3] }
  | _ => none }
def historyTellsRow : OpenClaim := { program := "ytgmgddccdfmiiaa", sum := "a270e6e03e3401a71e8bfdedbe1f49a1b50086f7c29f34a26ada440782e14852", func := "flywheel/flywheellaw14.HistoryTells", spec := "historyTells", unfollowed := true, recurses := true, apart := false }
def HistoryTellsSaid : Prop := historyTellsRow.holds Try.pinned (OpenSpec.ofChange historyTellsSpec)

/-- ITS FALSE NEIGHBOUR: 'it returns false'. Refute it at one input. -/
def historyTellsWrong : ChangeSpec := { name := "historyTells", fn := fun _ => fun
  | [d1, d2, d3] => { results := [.lit (.bool false)], args := [d1, d2, d3] }
  | _ => none }
def HistoryTellsWrongFalsely : Prop := historyTellsRow.holds Try.pinned (OpenSpec.ofChange historyTellsWrong)

/-- 'flywheellaw14.HistoryKeeps': WHATEVER THE INPUT: true; the input reads as it did. -/
def historyKeepsSpec : ChangeSpec := { name := "historyKeeps", fn := fun _ => fun
  | [d1, d2, d3] => { results := [.lit (.bool true)], args := [d1, d2, d3] }
  | _ => none }
def historyKeepsRow : OpenClaim := { program := "ytgmgddccdfmiiaa", sum := "a270e6e03e3401a71e8bfdedbe1f49a1b50086f7c29f34a26ada440782e14852", func := "flywheel/flywheellaw14.HistoryKeeps", spec := "historyKeeps", unfollowed := true, recurses := true, apart := false }
def HistoryKeepsSaid : Prop := historyKeepsRow.holds Try.pinned (OpenSpec.ofChange historyKeepsSpec)

/-- ITS FALSE NEIGHBOUR: 'it returns false'. Refute it at one input. -/
def historyKeepsWrong : ChangeSpec := { name := "historyKeeps", fn := fun _ => fun
  | [d1, d2, d3] => { results := [.lit (.bool false)], args := [d1, d2, d3] }
  | _ => none }
def HistoryKeepsWrongFalsely : Prop := historyKeepsRow.holds Try.pinned (OpenSpec.ofChange historyKeepsWrong)

/- THE SECOND FORM. 'bulk': how many values and letters a reading holds, each counted each time it is reached (what is shared counts as often as it is met; a slice's spare places count too). A statement '..UptoSaid' is the law's where the arguments, and the package variables that the reading takes, are together of bulk at most 1048576: NARROWER than '..Said'. Prove '..Said' where nothing that the law and all that it calls make is longer than what came in: it says more and counts as full. Else prove '..UptoSaid'. A law counts once. -/
mutual
def uptoBulk {H : Type} : DataW H → Nat
  | .lit (.string bytes) => bytes.length + 1
  | .lit _ => 1
  | .nil => 1
  | .ptr d => uptoBulk d + 1
  | .slice elems spare => uptoBulkAll elems + uptoBulkAll spare + 1
  | .agg parts => uptoBulkAll parts + 1
  | .iface _ d => uptoBulk d + 1
  | .map entries => uptoBulkEntries entries + 1
  | .held _ => 1
def uptoBulkAll {H : Type} : List (DataW H) → Nat
  | [] => 0
  | d :: r => uptoBulk d + uptoBulkAll r
def uptoBulkEntries {H : Type} : List (Lit × DataW H) → Nat
  | [] => 0
  | x :: r => uptoBulkEntry x + uptoBulkEntries r
def uptoBulkEntry {H : Type} : Lit × DataW H → Nat
  | (.string bytes, d) => bytes.length + uptoBulk d + 1
  | (_, d) => uptoBulk d + 1
 end
def uptoSmall : (H : Type) → List (DataW H) → Bool := fun _ ds => decide (uptoBulkAll ds ≤ 1048576)
def OpenSpec.upto (s : _root_.Go.ChangeSpec) : _root_.Go.OpenSpec := { _root_.Go.OpenSpec.ofChange s with cond := some uptoSmall }

/-- 'flywheellaw07.RingTells', WHERE WHAT IT READS IS OF BULK AT MOST 1048576: true; the input reads as it did. -/
def ringTellsUptoRow : OpenClaim := { program := "ytgmgddccdfmiiaa", sum := "a270e6e03e3401a71e8bfdedbe1f49a1b50086f7c29f34a26ada440782e14852", func := "flywheel/flywheellaw07.RingTells", spec := "ringTells", unfollowed := true, recurses := true, apart := false, narrowed := true }
def RingTellsUptoSaid : Prop := ringTellsUptoRow.holds Try.pinned (OpenSpec.upto ringTellsSpec)

/-- 'flywheellaw07.RingKeeps', WHERE WHAT IT READS IS OF BULK AT MOST 1048576: true; the input reads as it did. -/
def ringKeepsUptoRow : OpenClaim := { program := "ytgmgddccdfmiiaa", sum := "a270e6e03e3401a71e8bfdedbe1f49a1b50086f7c29f34a26ada440782e14852", func := "flywheel/flywheellaw07.RingKeeps", spec := "ringKeeps", unfollowed := true, recurses := true, apart := false, narrowed := true }
def RingKeepsUptoSaid : Prop := ringKeepsUptoRow.holds Try.pinned (OpenSpec.upto ringKeepsSpec)

/-- 'flywheellaw15.SteadyHolds', WHERE WHAT IT READS IS OF BULK AT MOST 1048576: true; the input reads as it did. -/
def steadyHoldsUptoRow : OpenClaim := { program := "ytgmgddccdfmiiaa", sum := "a270e6e03e3401a71e8bfdedbe1f49a1b50086f7c29f34a26ada440782e14852", func := "flywheel/flywheellaw15.SteadyHolds", spec := "steadyHolds", apart := false, narrowed := true }
def SteadyHoldsUptoSaid : Prop := steadyHoldsUptoRow.holds Try.pinned (OpenSpec.upto steadyHoldsSpec)

/-- 'flywheellaw07.RingClones', WHERE WHAT IT READS IS OF BULK AT MOST 1048576: true; the input reads as it did. -/
def ringClonesUptoRow : OpenClaim := { program := "ytgmgddccdfmiiaa", sum := "a270e6e03e3401a71e8bfdedbe1f49a1b50086f7c29f34a26ada440782e14852", func := "flywheel/flywheellaw07.RingClones", spec := "ringClones", unfollowed := true, recurses := true, apart := false, narrowed := true }
def RingClonesUptoSaid : Prop := ringClonesUptoRow.holds Try.pinned (OpenSpec.upto ringClonesSpec)

/-- 'flywheellaw15.SteadyTells', WHERE WHAT IT READS IS OF BULK AT MOST 1048576: true; the input reads as it did. -/
def steadyTellsUptoRow : OpenClaim := { program := "ytgmgddccdfmiiaa", sum := "a270e6e03e3401a71e8bfdedbe1f49a1b50086f7c29f34a26ada440782e14852", func := "flywheel/flywheellaw15.SteadyTells", spec := "steadyTells", apart := false, narrowed := true }
def SteadyTellsUptoSaid : Prop := steadyTellsUptoRow.holds Try.pinned (OpenSpec.upto steadyTellsSpec)

/-- 'flywheellaw14.HistoryTells', WHERE WHAT IT READS IS OF BULK AT MOST 1048576: true; the input reads as it did. -/
def historyTellsUptoRow : OpenClaim := { program := "ytgmgddccdfmiiaa", sum := "a270e6e03e3401a71e8bfdedbe1f49a1b50086f7c29f34a26ada440782e14852", func := "flywheel/flywheellaw14.HistoryTells", spec := "historyTells", unfollowed := true, recurses := true, apart := false, narrowed := true }
def HistoryTellsUptoSaid : Prop := historyTellsUptoRow.holds Try.pinned (OpenSpec.upto historyTellsSpec)

/-- 'flywheellaw14.HistoryKeeps', WHERE WHAT IT READS IS OF BULK AT MOST 1048576: true; the input reads as it did. -/
def historyKeepsUptoRow : OpenClaim := { program := "ytgmgddccdfmiiaa", sum := "a270e6e03e3401a71e8bfdedbe1f49a1b50086f7c29f34a26ada440782e14852", func := "flywheel/flywheellaw14.HistoryKeeps", spec := "historyKeeps", unfollowed := true, recurses := true, apart := false, narrowed := true }
def HistoryKeepsUptoSaid : Prop := historyKeepsUptoRow.holds Try.pinned (OpenSpec.upto historyKeepsSpec)

end Rows
end Go.Proofs.Ytgmgddccdfmiiaa
