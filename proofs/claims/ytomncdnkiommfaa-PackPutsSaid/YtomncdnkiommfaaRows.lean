/-
  No cell of these rows narrows 'for every input' (looked for: loops, veiled, ifaces, maps, wideKeys, modest, calm, conditions, laid).
  DERIVED. THE GIVEN ROWS OF THIS SEAT. 5 by the template 'for every input the law returns true; each argument reads behind the call as it read before'; 0 by the template 'total and deterministic' (their statements: YtomncdnkiommfaaTotals.lean).
  GIVEN WITH THE SEED: the statements are not yours to turn. If you find one false, say at which input.
  Laid BY PROGRAM, IN A SANDBOX (cutbox-rows.mjs): the forced cells as the released guide's own fill.sh prints them over the translation 03450e3a96a4b174… (all of the seat's roots in one cut). By AI agents, Wed Nov 11 2026. No macro, syntax, notation, axiom, sorry.
-/
import Derived.Test.YtomncdnkiommfaaChecked
import GoSem.Claim
import GoSem.ClaimJoined
import GoSem.ClaimMapViews
import Derived.JoinedTies
import Derived.KernelRfl
namespace Go.Proofs.Ytomncdnkiommfaa
/- THE CELL 'sum', in the pinned program and in every row, IS THE sha256 OF THE DUMP (.gsa) THAT YtomncdnkiommfaaProg.lean LOADS. Nothing in Lean hashes anything: it is a label: what it is worth is what the hold of that sum in a sandbox is worth. -/
noncomputable def Try.pinned : Pinned := { name := "ytomncdnkiommfaa", sum := "03450e3a96a4b1749f4df1e00f36eff26ab8cc6a742a7226f98be812d274888f", checked := Try.checked }
namespace Rows
def none {H : Type} : Left H := { results := [], args := [] }

/-- 'flywheellaw06.ZigGets': WHATEVER THE INPUT: true; the input reads as it did. -/
def zigGetsSpec : ChangeSpec := { name := "zigGets", fn := fun _ => fun
  | [d] => { results := [.lit (.bool true)], args := [d] }
  | _ => none }
def zigGetsRow : OpenClaim := { program := "ytomncdnkiommfaa", sum := "03450e3a96a4b1749f4df1e00f36eff26ab8cc6a742a7226f98be812d274888f", func := "flywheel/flywheellaw06.ZigGets", spec := "zigGets", apart := false }
def ZigGetsSaid : Prop := zigGetsRow.holds Try.pinned (OpenSpec.ofChange zigGetsSpec)

/-- ITS FALSE NEIGHBOUR: 'it returns false'. Refute it at one input. -/
def zigGetsWrong : ChangeSpec := { name := "zigGets", fn := fun _ => fun
  | [d] => { results := [.lit (.bool false)], args := [d] }
  | _ => none }
def ZigGetsWrongFalsely : Prop := zigGetsRow.holds Try.pinned (OpenSpec.ofChange zigGetsWrong)

/-- 'flywheellaw06.ZigPuts': WHATEVER THE INPUT: true; the input reads as it did. -/
def zigPutsSpec : ChangeSpec := { name := "zigPuts", fn := fun _ => fun
  | [d1, d2] => { results := [.lit (.bool true)], args := [d1, d2] }
  | _ => none }
def zigPutsRow : OpenClaim := { program := "ytomncdnkiommfaa", sum := "03450e3a96a4b1749f4df1e00f36eff26ab8cc6a742a7226f98be812d274888f", func := "flywheel/flywheellaw06.ZigPuts", spec := "zigPuts", apart := false }
def ZigPutsSaid : Prop := zigPutsRow.holds Try.pinned (OpenSpec.ofChange zigPutsSpec)

/-- ITS FALSE NEIGHBOUR: 'it returns false'. Refute it at one input. -/
def zigPutsWrong : ChangeSpec := { name := "zigPuts", fn := fun _ => fun
  | [d1, d2] => { results := [.lit (.bool false)], args := [d1, d2] }
  | _ => none }
def ZigPutsWrongFalsely : Prop := zigPutsRow.holds Try.pinned (OpenSpec.ofChange zigPutsWrong)

/-- 'flywheellaw06.ZigReads': WHATEVER THE INPUT: true; the input reads as it did. -/
def zigReadsSpec : ChangeSpec := { name := "zigReads", fn := fun _ => fun
  | [d1, d2] => { results := [.lit (.bool true)], args := [d1, d2] }
  | _ => none }
def zigReadsRow : OpenClaim := { program := "ytomncdnkiommfaa", sum := "03450e3a96a4b1749f4df1e00f36eff26ab8cc6a742a7226f98be812d274888f", func := "flywheel/flywheellaw06.ZigReads", spec := "zigReads", apart := false }
def ZigReadsSaid : Prop := zigReadsRow.holds Try.pinned (OpenSpec.ofChange zigReadsSpec)

/-- ITS FALSE NEIGHBOUR: 'it returns false'. Refute it at one input. -/
def zigReadsWrong : ChangeSpec := { name := "zigReads", fn := fun _ => fun
  | [d1, d2] => { results := [.lit (.bool false)], args := [d1, d2] }
  | _ => none }
def ZigReadsWrongFalsely : Prop := zigReadsRow.holds Try.pinned (OpenSpec.ofChange zigReadsWrong)

/-- 'flywheellaw11.PackGets': WHATEVER THE INPUT: true; the input reads as it did. -/
def packGetsSpec : ChangeSpec := { name := "packGets", fn := fun _ => fun
  | [d] => { results := [.lit (.bool true)], args := [d] }
  | _ => none }
def packGetsRow : OpenClaim := { program := "ytomncdnkiommfaa", sum := "03450e3a96a4b1749f4df1e00f36eff26ab8cc6a742a7226f98be812d274888f", func := "flywheel/flywheellaw11.PackGets", spec := "packGets", apart := false }
def PackGetsSaid : Prop := packGetsRow.holds Try.pinned (OpenSpec.ofChange packGetsSpec)

/-- ITS FALSE NEIGHBOUR: 'it returns false'. Refute it at one input. -/
def packGetsWrong : ChangeSpec := { name := "packGets", fn := fun _ => fun
  | [d] => { results := [.lit (.bool false)], args := [d] }
  | _ => none }
def PackGetsWrongFalsely : Prop := packGetsRow.holds Try.pinned (OpenSpec.ofChange packGetsWrong)

/-- 'flywheellaw11.PackPuts': WHATEVER THE INPUT: true; the input reads as it did. -/
def packPutsSpec : ChangeSpec := { name := "packPuts", fn := fun _ => fun
  | [d] => { results := [.lit (.bool true)], args := [d] }
  | _ => none }
def packPutsRow : OpenClaim := { program := "ytomncdnkiommfaa", sum := "03450e3a96a4b1749f4df1e00f36eff26ab8cc6a742a7226f98be812d274888f", func := "flywheel/flywheellaw11.PackPuts", spec := "packPuts", apart := false }
def PackPutsSaid : Prop := packPutsRow.holds Try.pinned (OpenSpec.ofChange packPutsSpec)

/-- ITS FALSE NEIGHBOUR: 'it returns false'. Refute it at one input. -/
def packPutsWrong : ChangeSpec := { name := "packPuts", fn := fun _ => fun
  | [d] => { results := [.lit (.bool false)], args := [d] }
  | _ => none }
def PackPutsWrongFalsely : Prop := packPutsRow.holds Try.pinned (OpenSpec.ofChange packPutsWrong)

/- THE SECOND FORM. 'bulk': how many values and letters a reading holds, each counted each time it is reached (what is shared counts as often as it is met; a slice's spare places count too). A statement '..UptoSaid' is the law's where the arguments, and the package variables that the reading takes, are together of bulk at most 1048576: NARROWER than '..Said'. Prove '..Said' where nothing that the law and all that it calls make is longer than what came in: it says more and counts as full. Else prove '..UptoSaid'. A law counts once. -/
mutual
def uptoBulk {H : Type} : DataW H → Nat
  | .lit (.string bytes) => bytes.length + 1
  | .lit _ => 1
  | .nil => 1
  | .ptr d => uptoBulk d + 1
  | .slice elems spare => uptoBulkAll elems + uptoBulkAll spare + 1
  | .agg parts => uptoBulkAll parts + 1
  | .iface _ d => uptoBulk d + 1
  | .map entries => uptoBulkEntries entries + 1
  | .held _ => 1
def uptoBulkAll {H : Type} : List (DataW H) → Nat
  | [] => 0
  | d :: r => uptoBulk d + uptoBulkAll r
def uptoBulkEntries {H : Type} : List (Lit × DataW H) → Nat
  | [] => 0
  | x :: r => uptoBulkEntry x + uptoBulkEntries r
def uptoBulkEntry {H : Type} : Lit × DataW H → Nat
  | (.string bytes, d) => bytes.length + uptoBulk d + 1
  | (_, d) => uptoBulk d + 1
 end
def uptoSmall : (H : Type) → List (DataW H) → Bool := fun _ ds => decide (uptoBulkAll ds ≤ 1048576)
def OpenSpec.upto (s : _root_.Go.ChangeSpec) : _root_.Go.OpenSpec := { _root_.Go.OpenSpec.ofChange s with cond := some uptoSmall }

/-- 'flywheellaw06.ZigGets', WHERE WHAT IT READS IS OF BULK AT MOST 1048576: true; the input reads as it did. -/
def zigGetsUptoRow : OpenClaim := { program := "ytomncdnkiommfaa", sum := "03450e3a96a4b1749f4df1e00f36eff26ab8cc6a742a7226f98be812d274888f", func := "flywheel/flywheellaw06.ZigGets", spec := "zigGets", apart := false, narrowed := true }
def ZigGetsUptoSaid : Prop := zigGetsUptoRow.holds Try.pinned (OpenSpec.upto zigGetsSpec)

/-- 'flywheellaw06.ZigPuts', WHERE WHAT IT READS IS OF BULK AT MOST 1048576: true; the input reads as it did. -/
def zigPutsUptoRow : OpenClaim := { program := "ytomncdnkiommfaa", sum := "03450e3a96a4b1749f4df1e00f36eff26ab8cc6a742a7226f98be812d274888f", func := "flywheel/flywheellaw06.ZigPuts", spec := "zigPuts", apart := false, narrowed := true }
def ZigPutsUptoSaid : Prop := zigPutsUptoRow.holds Try.pinned (OpenSpec.upto zigPutsSpec)

/-- 'flywheellaw06.ZigReads', WHERE WHAT IT READS IS OF BULK AT MOST 1048576: true; the input reads as it did. -/
def zigReadsUptoRow : OpenClaim := { program := "ytomncdnkiommfaa", sum := "03450e3a96a4b1749f4df1e00f36eff26ab8cc6a742a7226f98be812d274888f", func := "flywheel/flywheellaw06.ZigReads", spec := "zigReads", apart := false, narrowed := true }
def ZigReadsUptoSaid : Prop := zigReadsUptoRow.holds Try.pinned (OpenSpec.upto zigReadsSpec)

/-- 'flywheellaw11.PackGets', WHERE WHAT IT READS IS OF BULK AT MOST 1048576: true; the input reads as it did. -/
def packGetsUptoRow : OpenClaim := { program := "ytomncdnkiommfaa", sum := "03450e3a96a4b1749f4df1e00f36eff26ab8cc6a742a7226f98be812d274888f", func := "flywheel/flywheellaw11.PackGets", spec := "packGets", apart := false, narrowed := true }
def PackGetsUptoSaid : Prop := packGetsUptoRow.holds Try.pinned (OpenSpec.upto packGetsSpec)

/-- 'flywheellaw11.PackPuts', WHERE WHAT IT READS IS OF BULK AT MOST 1048576: true; the input reads as it did. -/
def packPutsUptoRow : OpenClaim := { program := "ytomncdnkiommfaa", sum := "03450e3a96a4b1749f4df1e00f36eff26ab8cc6a742a7226f98be812d274888f", func := "flywheel/flywheellaw11.PackPuts", spec := "packPuts", apart := false, narrowed := true }
def PackPutsUptoSaid : Prop := packPutsUptoRow.holds Try.pinned (OpenSpec.upto packPutsSpec)

end Rows
end Go.Proofs.Ytomncdnkiommfaa
