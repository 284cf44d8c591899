/-
  No cell of these rows narrows 'for every input' (looked for: loops, veiled, ifaces, maps, wideKeys, modest, calm, conditions, laid).
  DERIVED. THE GIVEN ROWS OF THIS SEAT. 5 by the template 'for every input the law returns true; each argument reads behind the call as it read before'; 0 by the template 'total and deterministic' (their statements: YtlkappmielllcaaTotals.lean).
  GIVEN WITH THE SEED: the statements are not yours to turn. If you find one false, say at which input.
  Laid BY PROGRAM, IN A SANDBOX (cutbox-rows.mjs): the forced cells as the released guide's own fill.sh prints them over the translation 4e312f8154a89723… (all of the seat's roots in one cut). By AI agents, Wed Nov 11 2026. No macro, syntax, notation, axiom, sorry.
-/
import Derived.Test.YtlkappmielllcaaChecked
import GoSem.Claim
import GoSem.ClaimJoined
import GoSem.ClaimMapViews
import Derived.JoinedTies
import Derived.KernelRfl
namespace Go.Proofs.Ytlkappmielllcaa
/- THE CELL 'sum', in the pinned program and in every row, IS THE sha256 OF THE DUMP (.gsa) THAT YtlkappmielllcaaProg.lean LOADS. Nothing in Lean hashes anything: it is a label: what it is worth is what the hold of that sum in a sandbox is worth. -/
noncomputable def Try.pinned : Pinned := { name := "ytlkappmielllcaa", sum := "4e312f8154a8972365dff891046cf631e949bb113889ea979992202e454cf016", checked := Try.checked }
namespace Rows
def none {H : Type} : Left H := { results := [], args := [] }

/-- 'flywheellaw25.RwlockAlone': WHATEVER THE INPUT: true; the input reads as it did. -/
def rwlockAloneSpec : ChangeSpec := { name := "rwlockAlone", fn := fun _ => fun
  | [d] => { results := [.lit (.bool true)], args := [d] }
  | _ => none }
def rwlockAloneRow : OpenClaim := { program := "ytlkappmielllcaa", sum := "4e312f8154a8972365dff891046cf631e949bb113889ea979992202e454cf016", func := "flywheel/flywheellaw25.RwlockAlone", spec := "rwlockAlone", apart := false }
def RwlockAloneSaid : Prop := rwlockAloneRow.holds Try.pinned (OpenSpec.ofChange rwlockAloneSpec)

/-- ITS FALSE NEIGHBOUR: 'it returns false'. Refute it at one input. -/
def rwlockAloneWrong : ChangeSpec := { name := "rwlockAlone", fn := fun _ => fun
  | [d] => { results := [.lit (.bool false)], args := [d] }
  | _ => none }
def RwlockAloneWrongFalsely : Prop := rwlockAloneRow.holds Try.pinned (OpenSpec.ofChange rwlockAloneWrong)

/-- 'flywheellaw25.RwlockPlays': WHATEVER THE INPUT: true; the input reads as it did. -/
def rwlockPlaysSpec : ChangeSpec := { name := "rwlockPlays", fn := fun _ => fun
  | [d] => { results := [.lit (.bool true)], args := [d] }
  | _ => none }
def rwlockPlaysRow : OpenClaim := { program := "ytlkappmielllcaa", sum := "4e312f8154a8972365dff891046cf631e949bb113889ea979992202e454cf016", func := "flywheel/flywheellaw25.RwlockPlays", spec := "rwlockPlays", apart := false }
def RwlockPlaysSaid : Prop := rwlockPlaysRow.holds Try.pinned (OpenSpec.ofChange rwlockPlaysSpec)

/-- ITS FALSE NEIGHBOUR: 'it returns false'. Refute it at one input. -/
def rwlockPlaysWrong : ChangeSpec := { name := "rwlockPlays", fn := fun _ => fun
  | [d] => { results := [.lit (.bool false)], args := [d] }
  | _ => none }
def RwlockPlaysWrongFalsely : Prop := rwlockPlaysRow.holds Try.pinned (OpenSpec.ofChange rwlockPlaysWrong)

/-- 'flywheellaw25.RwlockNone': WHATEVER THE INPUT: true; the input reads as it did. -/
def rwlockNoneSpec : ChangeSpec := { name := "rwlockNone", fn := fun _ => fun
  | [d1, d2] => { results := [.lit (.bool true)], args := [d1, d2] }
  | _ => none }
def rwlockNoneRow : OpenClaim := { program := "ytlkappmielllcaa", sum := "4e312f8154a8972365dff891046cf631e949bb113889ea979992202e454cf016", func := "flywheel/flywheellaw25.RwlockNone", spec := "rwlockNone", apart := false }
def RwlockNoneSaid : Prop := rwlockNoneRow.holds Try.pinned (OpenSpec.ofChange rwlockNoneSpec)

/-- ITS FALSE NEIGHBOUR: 'it returns false'. Refute it at one input. -/
def rwlockNoneWrong : ChangeSpec := { name := "rwlockNone", fn := fun _ => fun
  | [d1, d2] => { results := [.lit (.bool false)], args := [d1, d2] }
  | _ => none }
def RwlockNoneWrongFalsely : Prop := rwlockNoneRow.holds Try.pinned (OpenSpec.ofChange rwlockNoneWrong)

/-- 'flywheellaw26.MonitorWakes': WHATEVER THE INPUT: true; the input reads as it did. -/
def monitorWakesSpec : ChangeSpec := { name := "monitorWakes", fn := fun _ => fun
  | [d1, d2] => { results := [.lit (.bool true)], args := [d1, d2] }
  | _ => none }
def monitorWakesRow : OpenClaim := { program := "ytlkappmielllcaa", sum := "4e312f8154a8972365dff891046cf631e949bb113889ea979992202e454cf016", func := "flywheel/flywheellaw26.MonitorWakes", spec := "monitorWakes", apart := false }
def MonitorWakesSaid : Prop := monitorWakesRow.holds Try.pinned (OpenSpec.ofChange monitorWakesSpec)

/-- ITS FALSE NEIGHBOUR: 'it returns false'. Refute it at one input. -/
def monitorWakesWrong : ChangeSpec := { name := "monitorWakes", fn := fun _ => fun
  | [d1, d2] => { results := [.lit (.bool false)], args := [d1, d2] }
  | _ => none }
def MonitorWakesWrongFalsely : Prop := monitorWakesRow.holds Try.pinned (OpenSpec.ofChange monitorWakesWrong)

/-- 'flywheellaw26.MonitorNone': WHATEVER THE INPUT: true; the input reads as it did. -/
def monitorNoneSpec : ChangeSpec := { name := "monitorNone", fn := fun _ => fun
  | [d] => { results := [.lit (.bool true)], args := [d] }
  | _ => none }
def monitorNoneRow : OpenClaim := { program := "ytlkappmielllcaa", sum := "4e312f8154a8972365dff891046cf631e949bb113889ea979992202e454cf016", func := "flywheel/flywheellaw26.MonitorNone", spec := "monitorNone", apart := false }
def MonitorNoneSaid : Prop := monitorNoneRow.holds Try.pinned (OpenSpec.ofChange monitorNoneSpec)

/-- ITS FALSE NEIGHBOUR: 'it returns false'. Refute it at one input. -/
def monitorNoneWrong : ChangeSpec := { name := "monitorNone", fn := fun _ => fun
  | [d] => { results := [.lit (.bool false)], args := [d] }
  | _ => none }
def MonitorNoneWrongFalsely : Prop := monitorNoneRow.holds Try.pinned (OpenSpec.ofChange monitorNoneWrong)

/- THE SECOND FORM. 'bulk': how many values and letters a reading holds, each counted each time it is reached (what is shared counts as often as it is met; a slice's spare places count too). A statement '..UptoSaid' is the law's where the arguments, and the package variables that the reading takes, are together of bulk at most 1048576: NARROWER than '..Said'. Prove '..Said' where nothing that the law and all that it calls make is longer than what came in: it says more and counts as full. Else prove '..UptoSaid'. A law counts once. -/
mutual
def uptoBulk {H : Type} : DataW H → Nat
  | .lit (.string bytes) => bytes.length + 1
  | .lit _ => 1
  | .nil => 1
  | .ptr d => uptoBulk d + 1
  | .slice elems spare => uptoBulkAll elems + uptoBulkAll spare + 1
  | .agg parts => uptoBulkAll parts + 1
  | .iface _ d => uptoBulk d + 1
  | .map entries => uptoBulkEntries entries + 1
  | .held _ => 1
def uptoBulkAll {H : Type} : List (DataW H) → Nat
  | [] => 0
  | d :: r => uptoBulk d + uptoBulkAll r
def uptoBulkEntries {H : Type} : List (Lit × DataW H) → Nat
  | [] => 0
  | x :: r => uptoBulkEntry x + uptoBulkEntries r
def uptoBulkEntry {H : Type} : Lit × DataW H → Nat
  | (.string bytes, d) => bytes.length + uptoBulk d + 1
  | (_, d) => uptoBulk d + 1
 end
def uptoSmall : (H : Type) → List (DataW H) → Bool := fun _ ds => decide (uptoBulkAll ds ≤ 1048576)
def OpenSpec.upto (s : _root_.Go.ChangeSpec) : _root_.Go.OpenSpec := { _root_.Go.OpenSpec.ofChange s with cond := some uptoSmall }

/-- 'flywheellaw25.RwlockAlone', WHERE WHAT IT READS IS OF BULK AT MOST 1048576: true; the input reads as it did. -/
def rwlockAloneUptoRow : OpenClaim := { program := "ytlkappmielllcaa", sum := "4e312f8154a8972365dff891046cf631e949bb113889ea979992202e454cf016", func := "flywheel/flywheellaw25.RwlockAlone", spec := "rwlockAlone", apart := false, narrowed := true }
def RwlockAloneUptoSaid : Prop := rwlockAloneUptoRow.holds Try.pinned (OpenSpec.upto rwlockAloneSpec)

/-- 'flywheellaw25.RwlockPlays', WHERE WHAT IT READS IS OF BULK AT MOST 1048576: true; the input reads as it did. -/
def rwlockPlaysUptoRow : OpenClaim := { program := "ytlkappmielllcaa", sum := "4e312f8154a8972365dff891046cf631e949bb113889ea979992202e454cf016", func := "flywheel/flywheellaw25.RwlockPlays", spec := "rwlockPlays", apart := false, narrowed := true }
def RwlockPlaysUptoSaid : Prop := rwlockPlaysUptoRow.holds Try.pinned (OpenSpec.upto rwlockPlaysSpec)

/-- 'flywheellaw25.RwlockNone', WHERE WHAT IT READS IS OF BULK AT MOST 1048576: true; the input reads as it did. -/
def rwlockNoneUptoRow : OpenClaim := { program := "ytlkappmielllcaa", sum := "4e312f8154a8972365dff891046cf631e949bb113889ea979992202e454cf016", func := "flywheel/flywheellaw25.RwlockNone", spec := "rwlockNone", apart := false, narrowed := true }
def RwlockNoneUptoSaid : Prop := rwlockNoneUptoRow.holds Try.pinned (OpenSpec.upto rwlockNoneSpec)

/-- 'flywheellaw26.MonitorWakes', WHERE WHAT IT READS IS OF BULK AT MOST 1048576: true; the input reads as it did. -/
def monitorWakesUptoRow : OpenClaim := { program := "ytlkappmielllcaa", sum := "4e312f8154a8972365dff891046cf631e949bb113889ea979992202e454cf016", func := "flywheel/flywheellaw26.MonitorWakes", spec := "monitorWakes", apart := false, narrowed := true }
def MonitorWakesUptoSaid : Prop := monitorWakesUptoRow.holds Try.pinned (OpenSpec.upto monitorWakesSpec)

/-- 'flywheellaw26.MonitorNone', WHERE WHAT IT READS IS OF BULK AT MOST 1048576: true; the input reads as it did. -/
def monitorNoneUptoRow : OpenClaim := { program := "ytlkappmielllcaa", sum := "4e312f8154a8972365dff891046cf631e949bb113889ea979992202e454cf016", func := "flywheel/flywheellaw26.MonitorNone", spec := "monitorNone", apart := false, narrowed := true }
def MonitorNoneUptoSaid : Prop := monitorNoneUptoRow.holds Try.pinned (OpenSpec.upto monitorNoneSpec)

end Rows
end Go.Proofs.Ytlkappmielllcaa
